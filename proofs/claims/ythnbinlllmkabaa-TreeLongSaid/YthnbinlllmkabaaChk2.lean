/- The program's check: the loop over the children. -/
import Derived.Test.YthnbinlllmkabaaChk
namespace Go.Proofs.Ythnbinlllmkabaa
open Go.RowKit
set_option linter.unusedVariables false
set_option linter.unusedSimpArgs false

set_option maxHeartbeats 4000000 in
set_option maxRecDepth 100000 in
theorem chk_step (F : Nat → Prop) (d : Nat) (ih : ∀ e, d = e + 1 → ChkOk F e) : ChkOk F d := by
  intro w n a c p lv hn hpt hp hlv
  by_cases he : ownErr n.v n.m n.kids.length ≠ 0
  · refine (check_own w F d n a c p lv hn hlv he).mono ?_
    rintro e w' ⟨h1, h2⟩
    rw [chk_eq, if_pos he]
    exact ⟨h1, h2⟩
  by_cases hnil : n.kids = []
  · exact chk_nil F d w n a c p lv hn hlv he hnil
  have Ih := Lib.hid ih
  have hm0 : 0 < n.kids.length := List.length_pos_iff.2 hnil
  have hchk : chk n p lv = chkKids n.kids none p lv := by rw [chk_eq, if_neg he]
  have hblk := heap_alloc_new w (.cells (n.row a c).toArray 30)
  obtain ⟨f0, fv, fm, f40⟩ := nrow_at (o := 0) hn.vwf (rangeAt_row hblk)
  obtain ⟨g0, g1, g2, _⟩ := vl_at fv
  simp only [Nat.zero_add] at f0 f40 fv fm g0 g1 g2
  have hkz := hn.ksz
  have Fv := Lib.hid fv
  have Fm := Lib.hid fm
  have Hv := Lib.hid hn.vwf.1
  have hv35 := Lib.hid (n.v.cells_length hn.vwf)
  have hb1 := Lib.hid (on_alloc (Below.refl _ w) (.cells (n.row a c).toArray 30))
  obtain ⟨m, hm⟩ : ∃ m, m = n.kids.length := ⟨_, rfl⟩
  have hme : m ≤ 9223372036854775807 := by omega
  rw [← hm] at f40 he
  have hpos : posErr n.v n.m = 0 ∧ 1 ≤ n.v.kind ∧ n.v.kind ≤ 3 ∧ (n.v.kind = 1 ∨ (n.v.kind ≠ 1 ∧ m ≤ 0)) := by
    have h : ownErr n.v n.m m = 0 := Decidable.not_not.1 he
    unfold ownErr at h
    split at h
    · cases h
    · exact ⟨h, by omega, by omega, by omega⟩
  obtain ⟨hpz, hk1, hk3, hc⟩ := hpos
  have Hn := Lib.hid hn
  have Hm := Lib.hid hm
  have Hpz := Lib.hid hpz
  have Hchk := Lib.hid hchk
  have Hblk := Lib.hid hblk
  have hlv0 : (lv : Int) ≤ 64 := by omega
  have Hpt := Lib.hid (show partsAll n.kids ≤ 1000000 by have := parts_eq n; omega)
  clear fv fm hblk hn hm hpz hchk he hkz ih hpt
  have hmp : 0 < m := by rw [Hm.out]; exact hm0
  have h1 : n.v.kind = 1 := by omega
  have e1 : (n.v.kind != 1) = false := by simp [h1]
  clear h1 hc hnil hm0
  go_enter Try.func62, Try.ntmps62
  go_wp2_with (first | (refine wpList_load_midg (by rfl) 24 (.tmp 38) rfl w.heap.size 1 rfl n.v.cells _ Fv.out Try.underlying24 rfl (by rw [hv35.out]; kernel_rfl) ?_) | (refine wpList_load_midg (by rfl) 27 (.tmp 40) rfl w.heap.size 36 rfl (mcells n.m) _ Fm.out Try.underlying27 rfl (by kernel_rfl) ?_))
  refine (possible_any _ n.v n.m Hv.out).mono ?_
  rintro e w2 ⟨rfl, hb2⟩
  rw [Hpz.out]
  have f40' := (hb2.cell (p := ⟨w.heap.size, 40, none⟩) (by simp)).trans f40
  have hblk2 := (hb2.block w.heap.size (by simp)).trans Hblk.out
  obtain ⟨B, hB⟩ : ∃ B, B = w.heap.size := ⟨_, rfl⟩
  have Hb2 := Lib.hid (below_on hb1.out hb2)
  rw [← hB] at f40' hblk2 ⊢
  have HB := Lib.hid hB
  have Hbk := Lib.hid hblk2
  clear hb2 f0 f40 g0 g1 g2 hb1 Fv Fm hB hblk2
  go_wp2_with fail
  go_loopw [50] (fun i wr => ∃ k : Nat, k ≤ m ∧ i = .int .i64 k ∧ chk n p lv = chkKids (n.kids.drop k) (ahead n.kids k) p lv ∧ wr.heap[B]? = some (.cells (n.row a c).toArray 30 (0, 0)) ∧ Below w.heap.size w wr) (fun i _ => m - (intOf i).toNat)
  case atStart => exact ⟨0, Nat.zero_le _, rfl, Hchk.out, Hbk.out, Hb2.out⟩
  case round =>
    obtain ⟨k, hk, rfl, hck, hbk, hbe⟩ := hrel
    have Hck := Lib.hid hck
    have Hbk := Lib.hid hbk
    have Hbe := Lib.hid hbe
    clear hck hbk hbe f40'
    by_cases hlt : k < m
    · have hd : ∃ e, d = e + 1 := by
        cases d with
        | zero => exfalso; have h0 : n.kids = [] := Hn.out.kids; have := Hm.out; rw [h0] at this; simp at this; omega
        | succ e => exact ⟨e, rfl⟩
      obtain ⟨d', hd⟩ := hd
      have ihe := Ih.out d' hd
      have hkn := Hn.out.kids
      rw [hd] at hkn
      obtain ⟨g, off, a', c', rfl, hF, hr, hni⟩ := (hkn.below Hbe.out).at (i := k) (by rw [← Hm.out]; exact hlt)
      obtain ⟨x, hx⟩ : ∃ x, x = n.kids[k]'(by rw [← Hm.out]; exact hlt) := ⟨_, rfl⟩
      rw [← hx] at hr hni
      have Hr := Lib.hid (And.intro hr hni)
      have Hx := Lib.hid hx
      have Ihe := Lib.hid ihe
      have hvwf := Lib.hid (row_len (a := a') (c := c') hni.vwf)
      have hrsz := Lib.hid (show (x.row a' c').toArray.size = 41 by rw [List.size_toArray]; exact hvwf.out)
      have i1 : (0 : Int) ≤ (k : Int) := by omega
      have i2 : (k : Int) < (m : Int) := by omega
      have Hd := Lib.hid hd
      clear hr hni hx hkn ihe hd
      go_wp2_with (first | (refine wpList_load_midg (by rfl) 30 (.tmp 53) rfl g (off + k * 41) rfl (x.row a' c') _ Hr.out.1 Try.underlying30 rfl (by rw [hvwf.out]; kernel_rfl) ?_) | (refine wpList_store_fresh rfl 30 _ _ rfl (x.row a' c').toArray rfl rfl (by rw [hrsz.out]; kernel_rfl) (by rw [hrsz.out]; rfl) (all_one (nrow_one _ _ _ _ _ _)) ?_))
      intro w3 hs3 hr3 hb3
      obtain ⟨G, hG⟩ : ∃ G, G = wr.heap.size := ⟨_, rfl⟩
      rw [← hG] at hs3 hr3 ⊢
      obtain ⟨k0, kv, km, k40⟩ := nrow_at (o := 0) Hr.out.2.vwf (rangeAt_row hr3)
      have hxs := Hr.out.2.nsz
      have hps : p.size ≤ 16384 := by omega
      have hx6 : x.parts ≤ 1000000 := by rw [Hx.out]; exact Nat.le_trans (partsAll_get _) Hpt.out
      have hxn : x.name.size ≤ 1000000 := by have := parts_eq x; omega
      have Hbr3 := Lib.hid hb3
      have Hbe3 := Lib.hid (below_on Hbe.out hb3)
      have Hbk3 := Lib.hid ((hb3.block B (lt_heap Hbk.out)).trans Hbk.out)
      have Hr3 := Lib.hid (And.intro hr3 (And.intro kv (And.intro km k40)))
      have hGs := Lib.hid hG
      clear hr3 kv km k40 hb3 hs3 hG hxs
      by_cases h64 : lv = 64
      · subst h64
        have Hend := Lib.hid (show chk n p 64 = (p ++ { data := #[47] } ++ x.name, 43) by rw [Hck.out, chkKids_deep n.kids k (by rw [← Hm.out]; exact hlt) x Hx.out]; rfl)
        go_wp2
        go_ret2
        exact ⟨by rw [Hend.out]; rfl, Hbe3.out⟩
      · have hlt64 : lv < 64 := by omega
        have e64 : ((lv : Int) == 64) = false := by rw [beq_eq_false_iff_ne]; omega
        clear h64
        by_cases hl0 : lv = 0
        · have e0 : ((lv : Int) == 0) = true := by rw [hl0]; rfl
          have Hu := Lib.hid (show under p lv x.name = x.name by unfold under; rw [if_pos hl0])
          clear hl0
          go_wp2_with fail
          refine (check_name w3 x.name (by omega)).mono ?_
          rintro e w4 ⟨rfl, hb4⟩
          have Hbe4 := Lib.hid (below_on Hbe3.out hb4)
          have Hbk4 := Lib.hid ((hb4.block B (lt_heap Hbk3.out)).trans Hbk3.out)
          have Hr4 := Lib.hid ((hb4.block G (lt_heap Hr3.out.1)).trans Hr3.out.1)
          have Hb4 := Lib.hid hb4
          clear hb4 k0
          by_cases hne : nameErr x.name = 0
          · rw [hne]
            have h255 := okName_size hne
            have hqs : x.name.size ≤ 256 * (lv + 1) := by omega
            have Hnez := Lib.hid hne
            clear hne
            obtain ⟨k0, _, _, _⟩ := nrow_at (o := 0) Hr.out.2.vwf (rangeAt_row Hr4.out)
            obtain ⟨_, _, _, f40⟩ := nrow_at (o := 0) Hn.out.vwf (rangeAt_row Hbk4.out)
            simp only [Nat.zero_add] at f40
            rw [← Hm.out] at f40
            by_cases hk0 : k = 0
            · have Hri := Lib.hid (show rises (ahead n.kids k) x.name = true by rw [hk0]; rfl)
              have hgd : decide (0 < (k : Int)) = false := by simp; omega
              have hgd2 : decide (0 < k) = false := by simp; omega
              clear hk0
              go_wp2_with fail
              go_quiet (fail)
              generalize hw5 : w4.drewN _ = w5
              have Hb35 := Lib.hid (show Below w3.heap.size w3 w5 by rw [← hw5]; exact ((Upd.below Hb4.out (fun _ => False)).drewN _).toBelow (fun _ h => h.elim) (Nat.le_refl _))
              have Hbe5 := Lib.hid (below_on Hbe3.out Hb35.out)
              have Hbk5 := Lib.hid ((Hb35.out.block B (lt_heap Hbk3.out)).trans Hbk3.out)
              have Hrow5 := Lib.hid (rangeAt_row ((Hb35.out.block G (lt_heap Hr3.out.1)).trans Hr3.out.1))
              clear hw5 k0 f40
              go_wp2_with (refine wpList_load_midg (by rfl) 30 (.tmp 10) rfl G 0 rfl (x.row a' c') _ Hrow5.out Try.underlying30 rfl (by rw [hvwf.out]; kernel_rfl) ?_)
              refine (Ihe.out w5 x a' c' x.name (lv + 1) (Hr.out.2.kept (Upd.below (below_on Hbr3.out Hb35.out) (fun _ => False)) (fun _ _ => id)) hx6 hqs (by omega)).mono ?_
              rintro e w6 ⟨rfl, hb6⟩
              have Hbe6 := Lib.hid (below_on Hbe5.out hb6)
              have Hbk6 := Lib.hid ((hb6.block B (lt_heap Hbk5.out)).trans Hbk5.out)
              clear hb6
              obtain ⟨at_, er, hae⟩ : ∃ at_ er, chk x x.name (lv + 1) = (at_, er) := ⟨_, _, rfl⟩
              rw [hae]
              have Hae := Lib.hid hae
              clear hae
              by_cases her : er = 0
              · have her2 : (er != 0) = false := by simp [her]
                have Hgo := Lib.hid (Hck.out.trans (chkKids_good n.kids k (by rw [← Hm.out]; exact hlt) x Hx.out p lv (by omega) Hnez.out Hri.out (by rw [Hu.out, Hae.out]; exact her)))
                clear her
                go_wp2
                go_roundw
                case rel => exact ⟨k + 1, hlt, by go_num, Hgo.out, Hbk6.out, Hbe6.out⟩
                case measure => simp [intOf]; omega
              · have her2 : (er != 0) = true := by rw [bne_iff_ne]; exact her
                have Hgo := Lib.hid ((Hck.out.trans (chkKids_bad n.kids k (by rw [← Hm.out]; exact hlt) x Hx.out p lv (by omega) Hnez.out Hri.out (by rw [Hu.out, Hae.out]; exact her))).trans (show chk x (under p lv x.name) (lv + 1) = (at_, er) by rw [Hu.out]; exact Hae.out))
                clear her
                go_wp2
                go_ret2
                exact ⟨by rw [Hgo.out]; rfl, Hbe6.out⟩
            · have hkp : 0 < k := by omega
              have hpk : k - 1 < n.kids.length := by rw [← Hm.out]; omega
              have hkn := Hn.out.kids
              rw [Hd.out] at hkn
              obtain ⟨g2, off2, a2, c2, hga, hF2, hr2, hni2⟩ := (hkn.below (below_on Hbe4.out (Below.refl _ _))).at (i := k - 1) hpk
              injection hga with hga
              injection hga with hg1 hg2
              subst hg1 hg2
              have hpre := hr2 0 _ rfl
              simp only [Nat.add_zero] at hpre
              obtain ⟨pn, hpn⟩ : ∃ pn, pn = (n.kids[k - 1]'hpk).name := ⟨_, rfl⟩
              rw [← hpn] at hpre
              have hah : ahead n.kids k = some pn := by unfold ahead; rw [if_neg (by omega), List.getElem?_eq_getElem hpk, hpn]; rfl
              have hlq : (Op.bytesLess x.name.toList pn.toList || x.name.toList == pn.toList) = !Op.bytesLess pn.toList x.name.toList := leq_less _ _
              have hgd : decide (0 < (k : Int)) = true := by simp; omega
              have hgd2 : decide (0 < k) = true := by simp; omega
              have z1 : IntKind.i64.wrap ((k : Int) - 1) = (k : Int) - 1 := IntWalk.i64_in _ (by omega)
              have z2 : ((k : Int) - 1).toNat = k - 1 := by omega
              have z3 : (0 : Int) ≤ (k : Int) - 1 := by omega
              have z4 : (k : Int) - 1 < (m : Int) := by omega
              have z5 : (1 : Int) ≤ (k : Int) := by omega
              cases hrb : Op.bytesLess pn.toList x.name.toList with
              | true =>
                have Hri := Lib.hid (show rises (ahead n.kids k) x.name = true by rw [hah]; exact hrb)
                rw [hrb] at hlq
                clear hrb hah hpn hr2 hni2 hkn hk0
                go_wp2_with fail
                go_quiet (fail)
                generalize hw5 : w4.drewN _ = w5
                have Hb35 := Lib.hid (show Below w3.heap.size w3 w5 by rw [← hw5]; exact ((Upd.below Hb4.out (fun _ => False)).drewN _).toBelow (fun _ h => h.elim) (Nat.le_refl _))
                have Hbe5 := Lib.hid (below_on Hbe3.out Hb35.out)
                have Hbk5 := Lib.hid ((Hb35.out.block B (lt_heap Hbk3.out)).trans Hbk3.out)
                have Hrow5 := Lib.hid (rangeAt_row ((Hb35.out.block G (lt_heap Hr3.out.1)).trans Hr3.out.1))
                clear hw5 k0 f40 hpre hlq z1 z2 z3 z4 z5 hgd hgd2
                go_wp2_with (refine wpList_load_midg (by rfl) 30 (.tmp 10) rfl G 0 rfl (x.row a' c') _ Hrow5.out Try.underlying30 rfl (by rw [hvwf.out]; kernel_rfl) ?_)
                refine (Ihe.out w5 x a' c' x.name (lv + 1) (Hr.out.2.kept (Upd.below (below_on Hbr3.out Hb35.out) (fun _ => False)) (fun _ _ => id)) hx6 hqs (by omega)).mono ?_
                rintro e w6 ⟨rfl, hb6⟩
                have Hbe6 := Lib.hid (below_on Hbe5.out hb6)
                have Hbk6 := Lib.hid ((hb6.block B (lt_heap Hbk5.out)).trans Hbk5.out)
                clear hb6
                obtain ⟨at_, er, hae⟩ : ∃ at_ er, chk x x.name (lv + 1) = (at_, er) := ⟨_, _, rfl⟩
                rw [hae]
                have Hae := Lib.hid hae
                clear hae
                by_cases her : er = 0
                · have her2 : (er != 0) = false := by simp [her]
                  have Hgo := Lib.hid (Hck.out.trans (chkKids_good n.kids k (by rw [← Hm.out]; exact hlt) x Hx.out p lv (by omega) Hnez.out Hri.out (by rw [Hu.out, Hae.out]; exact her)))
                  clear her
                  go_wp2
                  go_roundw
                  case rel => exact ⟨k + 1, hlt, by go_num, Hgo.out, Hbk6.out, Hbe6.out⟩
                  case measure => simp [intOf]; omega
                · have her2 : (er != 0) = true := by rw [bne_iff_ne]; exact her
                  have Hgo := Lib.hid ((Hck.out.trans (chkKids_bad n.kids k (by rw [← Hm.out]; exact hlt) x Hx.out p lv (by omega) Hnez.out Hri.out (by rw [Hu.out, Hae.out]; exact her))).trans (show chk x (under p lv x.name) (lv + 1) = (at_, er) by rw [Hu.out]; exact Hae.out))
                  clear her
                  go_wp2
                  go_ret2
                  exact ⟨by rw [Hgo.out]; rfl, Hbe6.out⟩
              | false =>
                have Hend := Lib.hid (Hck.out.trans (chkKids_order n.kids k (by rw [← Hm.out]; exact hlt) x Hx.out p lv (by omega) Hnez.out (show rises (ahead n.kids k) x.name = false by rw [hah]; exact hrb)))
                rw [hrb] at hlq
                clear hrb hah hpn hr2 hni2 hkn hk0
                go_wp2_with fail
                go_quiet (fail)
                generalize hw5 : w4.drewN _ = w5
                have Hbe5 := Lib.hid (show Below w.heap.size w w5 by rw [← hw5]; exact ((Upd.below Hbe4.out (fun _ => False)).drewN _).toBelow (fun _ h => h.elim) (Nat.le_refl _))
                clear hw5 k0 f40 hpre hlq z1 z2 z3 z4 z5 hgd hgd2
                go_wp2
                go_ret2
                exact ⟨by rw [Hend.out, Hu.out]; rfl, Hbe5.out⟩
          · have hne1 : (nameErr x.name != 0) = true := by rw [bne_iff_ne]; exact hne
            have Hend := Lib.hid (Hck.out.trans (chkKids_name n.kids k (by rw [← Hm.out]; exact hlt) x Hx.out p lv (by omega) hne))
            clear hne
            go_wp2
            go_ret2
            exact ⟨by rw [Hend.out, Hu.out]; rfl, Hbe4.out⟩
        · have e0 : ((lv : Int) == 0) = false := by rw [beq_eq_false_iff_ne]; omega
          obtain ⟨q, hq⟩ : ∃ q, q = under p lv x.name := ⟨_, rfl⟩
          have Hq := Lib.hid hq
          have hqe : p ++ { data := #[47] } ++ x.name = q := by rw [hq]; unfold under; rw [if_neg hl0]
          have Hqe := Lib.hid hqe
          clear hq hqe
          go_wp2_with fail
          rw [Hqe.out]
          refine (check_name w3 x.name (by omega)).mono ?_
          rintro e w4 ⟨rfl, hb4⟩
          have Hbe4 := Lib.hid (below_on Hbe3.out hb4)
          have Hbk4 := Lib.hid ((hb4.block B (lt_heap Hbk3.out)).trans Hbk3.out)
          have Hr4 := Lib.hid ((hb4.block G (lt_heap Hr3.out.1)).trans Hr3.out.1)
          have Hb4 := Lib.hid hb4
          clear hb4 k0
          by_cases hne : nameErr x.name = 0
          · rw [hne]
            have h255 := okName_size hne
            have hqs : q.size ≤ 256 * (lv + 1) := by rw [Hq.out, under_size, if_neg hl0]; omega
            have Hnez := Lib.hid hne
            clear hne
            obtain ⟨k0, _, _, _⟩ := nrow_at (o := 0) Hr.out.2.vwf (rangeAt_row Hr4.out)
            obtain ⟨_, _, _, f40⟩ := nrow_at (o := 0) Hn.out.vwf (rangeAt_row Hbk4.out)
            simp only [Nat.zero_add] at f40
            rw [← Hm.out] at f40
            by_cases hk0 : k = 0
            · have Hri := Lib.hid (show rises (ahead n.kids k) x.name = true by rw [hk0]; rfl)
              have hgd : decide (0 < (k : Int)) = false := by simp; omega
              have hgd2 : decide (0 < k) = false := by simp; omega
              clear hk0
              go_wp2_with fail
              go_quiet (fail)
              generalize hw5 : w4.drewN _ = w5
              have Hb35 := Lib.hid (show Below w3.heap.size w3 w5 by rw [← hw5]; exact ((Upd.below Hb4.out (fun _ => False)).drewN _).toBelow (fun _ h => h.elim) (Nat.le_refl _))
              have Hbe5 := Lib.hid (below_on Hbe3.out Hb35.out)
              have Hbk5 := Lib.hid ((Hb35.out.block B (lt_heap Hbk3.out)).trans Hbk3.out)
              have Hrow5 := Lib.hid (rangeAt_row ((Hb35.out.block G (lt_heap Hr3.out.1)).trans Hr3.out.1))
              clear hw5 k0 f40
              go_wp2_with (refine wpList_load_midg (by rfl) 30 (.tmp 10) rfl G 0 rfl (x.row a' c') _ Hrow5.out Try.underlying30 rfl (by rw [hvwf.out]; kernel_rfl) ?_)
              refine (Ihe.out w5 x a' c' q (lv + 1) (Hr.out.2.kept (Upd.below (below_on Hbr3.out Hb35.out) (fun _ => False)) (fun _ _ => id)) hx6 hqs (by omega)).mono ?_
              rintro e w6 ⟨rfl, hb6⟩
              have Hbe6 := Lib.hid (below_on Hbe5.out hb6)
              have Hbk6 := Lib.hid ((hb6.block B (lt_heap Hbk5.out)).trans Hbk5.out)
              clear hb6
              obtain ⟨at_, er, hae⟩ : ∃ at_ er, chk x q (lv + 1) = (at_, er) := ⟨_, _, rfl⟩
              rw [hae]
              have Hae := Lib.hid hae
              clear hae
              by_cases her : er = 0
              · have her2 : (er != 0) = false := by simp [her]
                have Hgo := Lib.hid (Hck.out.trans (chkKids_good n.kids k (by rw [← Hm.out]; exact hlt) x Hx.out p lv (by omega) Hnez.out Hri.out (by rw [← Hq.out]; rw [Hae.out]; exact her)))
                clear her
                go_wp2
                go_roundw
                case rel => exact ⟨k + 1, hlt, by go_num, Hgo.out, Hbk6.out, Hbe6.out⟩
                case measure => simp [intOf]; omega
              · have her2 : (er != 0) = true := by rw [bne_iff_ne]; exact her
                have Hgo := Lib.hid ((Hck.out.trans (chkKids_bad n.kids k (by rw [← Hm.out]; exact hlt) x Hx.out p lv (by omega) Hnez.out Hri.out (by rw [← Hq.out]; rw [Hae.out]; exact her))).trans (show chk x (under p lv x.name) (lv + 1) = (at_, er) by rw [← Hq.out]; exact Hae.out))
                clear her
                go_wp2
                go_ret2
                exact ⟨by rw [Hgo.out]; rfl, Hbe6.out⟩
            · have hkp : 0 < k := by omega
              have hpk : k - 1 < n.kids.length := by rw [← Hm.out]; omega
              have hkn := Hn.out.kids
              rw [Hd.out] at hkn
              obtain ⟨g2, off2, a2, c2, hga, hF2, hr2, hni2⟩ := (hkn.below (below_on Hbe4.out (Below.refl _ _))).at (i := k - 1) hpk
              injection hga with hga
              injection hga with hg1 hg2
              subst hg1 hg2
              have hpre := hr2 0 _ rfl
              simp only [Nat.add_zero] at hpre
              obtain ⟨pn, hpn⟩ : ∃ pn, pn = (n.kids[k - 1]'hpk).name := ⟨_, rfl⟩
              rw [← hpn] at hpre
              have hah : ahead n.kids k = some pn := by unfold ahead; rw [if_neg (by omega), List.getElem?_eq_getElem hpk, hpn]; rfl
              have hlq : (Op.bytesLess x.name.toList pn.toList || x.name.toList == pn.toList) = !Op.bytesLess pn.toList x.name.toList := leq_less _ _
              have hgd : decide (0 < (k : Int)) = true := by simp; omega
              have hgd2 : decide (0 < k) = true := by simp; omega
              have z1 : IntKind.i64.wrap ((k : Int) - 1) = (k : Int) - 1 := IntWalk.i64_in _ (by omega)
              have z2 : ((k : Int) - 1).toNat = k - 1 := by omega
              have z3 : (0 : Int) ≤ (k : Int) - 1 := by omega
              have z4 : (k : Int) - 1 < (m : Int) := by omega
              have z5 : (1 : Int) ≤ (k : Int) := by omega
              cases hrb : Op.bytesLess pn.toList x.name.toList with
              | true =>
                have Hri := Lib.hid (show rises (ahead n.kids k) x.name = true by rw [hah]; exact hrb)
                rw [hrb] at hlq
                clear hrb hah hpn hr2 hni2 hkn hk0
                go_wp2_with fail
                go_quiet (fail)
                generalize hw5 : w4.drewN _ = w5
                have Hb35 := Lib.hid (show Below w3.heap.size w3 w5 by rw [← hw5]; exact ((Upd.below Hb4.out (fun _ => False)).drewN _).toBelow (fun _ h => h.elim) (Nat.le_refl _))
                have Hbe5 := Lib.hid (below_on Hbe3.out Hb35.out)
                have Hbk5 := Lib.hid ((Hb35.out.block B (lt_heap Hbk3.out)).trans Hbk3.out)
                have Hrow5 := Lib.hid (rangeAt_row ((Hb35.out.block G (lt_heap Hr3.out.1)).trans Hr3.out.1))
                clear hw5 k0 f40 hpre hlq z1 z2 z3 z4 z5 hgd hgd2
                go_wp2_with (refine wpList_load_midg (by rfl) 30 (.tmp 10) rfl G 0 rfl (x.row a' c') _ Hrow5.out Try.underlying30 rfl (by rw [hvwf.out]; kernel_rfl) ?_)
                refine (Ihe.out w5 x a' c' q (lv + 1) (Hr.out.2.kept (Upd.below (below_on Hbr3.out Hb35.out) (fun _ => False)) (fun _ _ => id)) hx6 hqs (by omega)).mono ?_
                rintro e w6 ⟨rfl, hb6⟩
                have Hbe6 := Lib.hid (below_on Hbe5.out hb6)
                have Hbk6 := Lib.hid ((hb6.block B (lt_heap Hbk5.out)).trans Hbk5.out)
                clear hb6
                obtain ⟨at_, er, hae⟩ : ∃ at_ er, chk x q (lv + 1) = (at_, er) := ⟨_, _, rfl⟩
                rw [hae]
                have Hae := Lib.hid hae
                clear hae
                by_cases her : er = 0
                · have her2 : (er != 0) = false := by simp [her]
                  have Hgo := Lib.hid (Hck.out.trans (chkKids_good n.kids k (by rw [← Hm.out]; exact hlt) x Hx.out p lv (by omega) Hnez.out Hri.out (by rw [← Hq.out]; rw [Hae.out]; exact her)))
                  clear her
                  go_wp2
                  go_roundw
                  case rel => exact ⟨k + 1, hlt, by go_num, Hgo.out, Hbk6.out, Hbe6.out⟩
                  case measure => simp [intOf]; omega
                · have her2 : (er != 0) = true := by rw [bne_iff_ne]; exact her
                  have Hgo := Lib.hid ((Hck.out.trans (chkKids_bad n.kids k (by rw [← Hm.out]; exact hlt) x Hx.out p lv (by omega) Hnez.out Hri.out (by rw [← Hq.out]; rw [Hae.out]; exact her))).trans (show chk x (under p lv x.name) (lv + 1) = (at_, er) by rw [← Hq.out]; exact Hae.out))
                  clear her
                  go_wp2
                  go_ret2
                  exact ⟨by rw [Hgo.out]; rfl, Hbe6.out⟩
              | false =>
                have Hend := Lib.hid (Hck.out.trans (chkKids_order n.kids k (by rw [← Hm.out]; exact hlt) x Hx.out p lv (by omega) Hnez.out (show rises (ahead n.kids k) x.name = false by rw [hah]; exact hrb)))
                rw [hrb] at hlq
                clear hrb hah hpn hr2 hni2 hkn hk0
                go_wp2_with fail
                go_quiet (fail)
                generalize hw5 : w4.drewN _ = w5
                have Hbe5 := Lib.hid (show Below w.heap.size w w5 by rw [← hw5]; exact ((Upd.below Hbe4.out (fun _ => False)).drewN _).toBelow (fun _ h => h.elim) (Nat.le_refl _))
                clear hw5 k0 f40 hpre hlq z1 z2 z3 z4 z5 hgd hgd2
                go_wp2
                go_ret2
                exact ⟨by rw [Hend.out, ← Hq.out]; rfl, Hbe5.out⟩
          · have hne1 : (nameErr x.name != 0) = true := by rw [bne_iff_ne]; exact hne
            have Hend := Lib.hid (Hck.out.trans (chkKids_name n.kids k (by rw [← Hm.out]; exact hlt) x Hx.out p lv (by omega) hne))
            clear hne
            go_wp2
            go_ret2
            exact ⟨by rw [Hend.out, ← Hq.out]; rfl, Hbe4.out⟩
    · obtain rfl : k = m := by omega
      have hend : chk n p lv = (⟨#[]⟩, 0) := by rw [Hck.out, List.drop_eq_nil_of_le (by rw [← Hm.out]; exact Nat.le_refl _)]; rfl
      have Hend := Lib.hid hend
      clear hend
      go_wp2
      go_ret2
      exact ⟨by rw [Hend.out]; rfl, Hbe.out⟩
theorem chk_ok (F : Nat → Prop) : ∀ d : Nat, ChkOk F d
  | 0 => chk_step F 0 (fun e he => by omega)
  | d + 1 => chk_step F (d + 1) (fun e he => (Nat.succ.inj he) ▸ chk_ok F d)
end Go.Proofs.Ythnbinlllmkabaa
