/- TreeSames, walked. (Written by gen_sames.py.) -/
import Derived.Test.YthnbinlllmkabaaBareT
import Derived.Test.YthnbinlllmkabaaLike
import Derived.Test.YthnbinlllmkabaaGrown
import Derived.Test.YthnbinlllmkabaaKnown
import Derived.Deep.RegionHeld3
namespace Go.Proofs.Ythnbinlllmkabaa
open Go.RowKit Go.Shelf
set_option linter.unusedVariables false
set_option linter.unusedSimpArgs false

theorem below_on' {w a b : World} (h : Below w.heap.size w a) (k : Below a.heap.size a b) : Below w.heap.size w b := h.trans (k.mono h.size)
theorem alike_names2 (n u : Nd) (s t : ByteArray) : (n.named s).alike (u.named t) = n.alike u := by cases n; cases u; rfl
theorem sameO_named2 (o : Bool) (n u : Nd) (t : ByteArray) : sameO o n (u.named t) = sameO o n u := by rw [sameO_eq, sameO_eq o n u]; rfl
theorem likeR_named (n u : Nd) (t : ByteArray) : likeR (n.named t) (u.named t) = sameO true n u := by
  show (decide (t = t) && sameO true (n.named t) (u.named t)) = _
  rw [sameO_named]
  simp
set_option maxHeartbeats 20000000 in
set_option maxRecDepth 100000 in
theorem sames_law (d : Nat) (w : World) (n s r : Nd) (a1 a2 a3 : Option Addr) (c1 c2 c3 : Nat) (hn1 : NodeIn w (fun b => b < w.heap.size) d n a1) (hn2 : NodeIn w (fun b => b < w.heap.size) d s a2) (hn3 : NodeIn w (fun b => b < w.heap.size) d r a3) :
    Calls Try.prog 6 #[.agg (n.row a1 c1).toArray, .agg (s.row a2 c2).toArray, .agg (r.row a3 c3).toArray] w fun e w' => e = .returned (.bool true) ∧ Below w.heap.size w w' := by
  have Hn1 := Lib.hid hn1
  have Hn2 := Lib.hid hn2
  have Hn3 := Lib.hid hn3
  have l1 := Lib.hid (row_len (a := a1) (c := c1) hn1.vwf)
  have l2 := Lib.hid (row_len (a := a2) (c := c2) hn2.vwf)
  have l3 := Lib.hid (row_len (a := a3) (c := c3) hn3.vwf)
  have hA := alloc3 w (.cells (n.row a1 c1).toArray 30) (.cells (s.row a2 c2).toArray 30) (.cells (r.row a3 c3).toArray 30)
  have hb := on_alloc (on_alloc (on_alloc (Below.refl _ w) (.cells (n.row a1 c1).toArray 30)) (.cells (s.row a2 c2).toArray 30)) (.cells (r.row a3 c3).toArray 30)
  clear hn1 hn2 hn3
  go_enter Try.func6, Try.ntmps6
  go_wp2_with fail
  have hs3 : (((w.alloc (.cells (n.row a1 c1).toArray 30)).alloc (.cells (s.row a2 c2).toArray 30)).alloc (.cells (r.row a3 c3).toArray 30)).heap.size = w.heap.size + 3 := by simp
  obtain ⟨h1, h2, h3⟩ := hA
  generalize ((w.alloc (.cells (n.row a1 c1).toArray 30)).alloc (.cells (s.row a2 c2).toArray 30)).alloc (.cells (r.row a3 c3).toArray 30) = w3 at h1 h2 h3 hb hs3 ⊢
  have R1 := Lib.hid (rangeAt_row h1)
  have R2 := Lib.hid (rangeAt_row h2)
  have R3 := Lib.hid (rangeAt_row h3)
  have Hb := Lib.hid hb
  have Hs3 := Lib.hid hs3
  have Hkn := Lib.hid (known_ok w3)
  clear h1 h2 h3 hb hs3
  refine Hkn.out.mono ?_
  rintro e wk ⟨rfl, hbk⟩
  have hszk : w.heap.size + 3 ≤ wk.heap.size := by have := hbk.size; have := Hs3.out; omega
  have Hbk := Lib.hid (below_on Hb.out hbk)
  have hr1 := rangeAt_kept R1.out (Upd.below hbk fun _ => False) id
  have hr2 := rangeAt_kept R2.out (Upd.below hbk fun _ => False) id
  have hr3 := rangeAt_kept R3.out (Upd.below hbk fun _ => False) id
  have HKS : Hid (∀ w', Below wk.heap.size wk w' → Below wk.heap.size wk w' ∧ w'.rangeAt (w.heap.size) 0 (n.row a1 c1) ∧ w'.rangeAt (w.heap.size + 1) 0 (s.row a2 c2) ∧ w'.rangeAt (w.heap.size + 1 + 1) 0 (r.row a3 c3)) :=
    fun w' h => ⟨h, rangeAt_kept hr1 (Upd.below h fun _ => False) id, rangeAt_kept hr2 (Upd.below h fun _ => False) id, rangeAt_kept hr3 (Upd.below h fun _ => False) id⟩
  clear hr1 hr2 hr3 R1 R2 R3 hbk Hkn
  go_wp2_with fail
  have und30 := Try.underlying30
  have inf1 : (Try.prog.info? 30).map (·.size) = some (n.row a1 c1).length := by rw [l1.out]; kernel_rfl
  have inf2 : (Try.prog.info? 30).map (·.size) = some (s.row a2 c2).length := by rw [l2.out]; kernel_rfl
  have inf3 : (Try.prog.info? 30).map (·.size) = some (r.row a3 c3).length := by rw [l3.out]; kernel_rfl
  refine wp_region_noPanic ?_
  refine wp_region_held_drew (S := (fun w' => Below wk.heap.size wk w' ∧ w'.rangeAt (w.heap.size) 0 (n.row a1 c1) ∧ w'.rangeAt (w.heap.size + 1) 0 (s.row a2 c2) ∧ w'.rangeAt (w.heap.size + 1 + 1) 0 (r.row a3 c3))) (by kernel_rfl) ?_ (fun hHeld => ?_)
  · (try dsimp only); (first | assumption | exact HKS.out _ (on_drew (Below.refl _ _)) | exact HKS.out _ Hkn3.out | exact HKS.out _ Hkn2.out | exact HKS.out _ Hkn1.out)
  refine' wpAnyH_take (i := 0) (v := _) rfl (by kernel_rfl) (by kernel_rfl) (by kernel_rfl) (fun _ _ _ h => h) (yieldsIf_load_mid (by rfl) _ _ rfl _ _ rfl _ _ ?hS0 ?hu0 ?hd0 ?hi0) (by assumption) ?rest1
  case hS0 => (intro w hSw; (try dsimp only at hSw); go_split_ands; assumption)
  case hu0 => assumption
  case hd0 => rfl
  case hi0 => first | assumption | (simp only [*]; done)
  (try simp only [List.getElem_toArray, List.getElem_cons_succ, List.getElem_cons_zero, Act.put, List.setIfInBounds_toArray, List.set_cons_zero, List.set_cons_succ])
  refine' wpAnyH_take (i := 2) (v := _) rfl (by kernel_rfl) (by kernel_rfl) (by kernel_rfl) (fun _ _ _ h => h) (yieldsIf_load_mid (by rfl) _ _ rfl _ _ rfl _ _ ?hS2 ?hu2 ?hd2 ?hi2) (by assumption) ?rest2
  case hS2 => (intro w hSw; (try dsimp only at hSw); go_split_ands; assumption)
  case hu2 => assumption
  case hd2 => rfl
  case hi2 => first | assumption | (simp only [*]; done)
  (try simp only [List.getElem_toArray, List.getElem_cons_succ, List.getElem_cons_zero, Act.put, List.setIfInBounds_toArray, List.set_cons_zero, List.set_cons_succ])
  refine' wpAnyH_take (i := 4) (v := _) rfl (by kernel_rfl) (by kernel_rfl) (by kernel_rfl) (fun _ _ _ h => h) (yieldsIf_load_mid (by rfl) _ _ rfl _ _ rfl _ _ ?hS4 ?hu4 ?hd4 ?hi4) (by assumption) ?rest3
  case hS4 => (intro w hSw; (try dsimp only at hSw); go_split_ands; assumption)
  case hu4 => assumption
  case hd4 => rfl
  case hi4 => first | assumption | (simp only [*]; done)
  (try simp only [List.getElem_toArray, List.getElem_cons_succ, List.getElem_cons_zero, Act.put, List.setIfInBounds_toArray, List.set_cons_zero, List.set_cons_succ])
  refine wpAnyH_ready (rs := [1]) (by kernel_rfl) (by simp) ?_
  refine AllReadyH.cons rfl (fun K hK => ?_) ?_
  rotate_left
  · exact AllReadyH.nil
  go_simp
  refine (grown_any (fun b => b < w.heap.size) d wk.drew n a1 c1 ((Hn1.out.below Hbk.out).below (on_drew (Below.refl wk.heap.size wk))) (fun b hb => by have := hszk; have := ((on_drew (Below.refl wk.heap.size wk))).size; omega)).mono ?_; rintro e' wg1 ⟨v1, rfl, hv, hbn⟩; have HV1 := Lib.hid hv; have Hkn1 := Lib.hid (below_on (on_drew (Below.refl wk.heap.size wk)) hbn); clear hv hbn
  (try go_wp2_with fail)
  refine hK.out _ _ ?_ (fun hHeld => ?_)
  · (try dsimp only); (first | assumption | exact HKS.out _ (on_drew (Below.refl _ _)) | exact HKS.out _ Hkn3.out | exact HKS.out _ Hkn2.out | exact HKS.out _ Hkn1.out)
  clear hK K
  (try simp only [List.getElem_toArray, List.getElem_cons_succ, List.getElem_cons_zero, Act.put, List.setIfInBounds_toArray, List.set_cons_zero, List.set_cons_succ])
  refine wpAnyH_ready (rs := [3]) (by kernel_rfl) (by simp) ?_
  refine AllReadyH.cons rfl (fun K hK => ?_) ?_
  rotate_left
  · exact AllReadyH.nil
  go_simp
  refine (grown_any (fun b => b < w.heap.size) d wg1 s a2 c2 ((Hn2.out.below Hbk.out).below Hkn1.out) (fun b hb => by have := hszk; have := (Hkn1.out).size; omega)).mono ?_; rintro e' wg2 ⟨v2, rfl, hv, hbn⟩; have HV2 := Lib.hid hv; have Hkn2 := Lib.hid (below_on Hkn1.out hbn); replace HV1 := Lib.hid (HV1.out.below hbn); clear hv hbn
  (try go_wp2_with fail)
  refine hK.out _ _ ?_ (fun hHeld => ?_)
  · (try dsimp only); (first | assumption | exact HKS.out _ (on_drew (Below.refl _ _)) | exact HKS.out _ Hkn3.out | exact HKS.out _ Hkn2.out | exact HKS.out _ Hkn1.out)
  clear hK K
  (try simp only [List.getElem_toArray, List.getElem_cons_succ, List.getElem_cons_zero, Act.put, List.setIfInBounds_toArray, List.set_cons_zero, List.set_cons_succ])
  refine wpAnyH_ready (rs := [5]) (by kernel_rfl) (by simp) ?_
  refine AllReadyH.cons rfl (fun K hK => ?_) ?_
  rotate_left
  · exact AllReadyH.nil
  go_simp
  refine (grown_any (fun b => b < w.heap.size) d wg2 r a3 c3 ((Hn3.out.below Hbk.out).below Hkn2.out) (fun b hb => by have := hszk; have := (Hkn2.out).size; omega)).mono ?_; rintro e' wg3 ⟨v3, rfl, hv, hbn⟩; have HV3 := Lib.hid hv; have Hkn3 := Lib.hid (below_on Hkn2.out hbn); replace HV1 := Lib.hid (HV1.out.below hbn); replace HV2 := Lib.hid (HV2.out.below hbn); clear hv hbn
  (try go_wp2_with fail)
  refine hK.out _ _ ?_ (fun hHeld => ?_)
  · (try dsimp only); (first | assumption | exact HKS.out _ (on_drew (Below.refl _ _)) | exact HKS.out _ Hkn3.out | exact HKS.out _ Hkn2.out | exact HKS.out _ Hkn1.out)
  clear hK K
  (try simp only [List.getElem_toArray, List.getElem_cons_succ, List.getElem_cons_zero, Act.put, List.setIfInBounds_toArray, List.set_cons_zero, List.set_cons_succ])
  refine wpAnyH_take (i := 6) (v := ?_) rfl (by kernel_rfl) (by kernel_rfl) (by kernel_rfl) (fun _ _ _ h => h) (Or.inl ⟨by rfl, ?_⟩) (by assumption) ?_
  rotate_left
  · intro w hSw; (try dsimp only at hSw); go_simp; (try with_reducible rfl)
  (try simp only [List.getElem_toArray, List.getElem_cons_succ, List.getElem_cons_zero, Act.put, List.setIfInBounds_toArray, List.set_cons_zero, List.set_cons_succ])
  refine wpAnyH_take (i := 7) (v := ?_) rfl (by kernel_rfl) (by kernel_rfl) (by kernel_rfl) (fun _ _ _ h => h) (Or.inl ⟨by rfl, ?_⟩) (by assumption) ?_
  rotate_left
  · intro w hSw; (try dsimp only at hSw); go_simp; (try with_reducible rfl)
  (try simp only [List.getElem_toArray, List.getElem_cons_succ, List.getElem_cons_zero, Act.put, List.setIfInBounds_toArray, List.set_cons_zero, List.set_cons_succ])
  refine wpAnyH_take (i := 8) (v := ?_) rfl (by kernel_rfl) (by kernel_rfl) (by kernel_rfl) (fun _ _ _ h => h) (Or.inl ⟨by rfl, ?_⟩) (by assumption) ?_
  rotate_left
  · intro w hSw; (try dsimp only at hSw); go_simp; (try with_reducible rfl)
  (try simp only [List.getElem_toArray, List.getElem_cons_succ, List.getElem_cons_zero, Act.put, List.setIfInBounds_toArray, List.set_cons_zero, List.set_cons_succ])
  refine wpAnyH_done (by kernel_rfl) ?_ _
  refine NoPanic.normal ?_
  --TAIL
  have hkk := Lib.hid (Hbk.out.trans (Hkn3.out.mono (show w.heap.size ≤ wk.heap.size by omega)))
  have hv1 := HV1.out
  have hv2 := HV2.out
  have hv3 := HV3.out
  clear HV1 HV2 HV3 HKS Hkn1 Hkn2 Hkn3 inf1 inf2 inf3 und30 Hn1 Hn2 Hn3 l1 l2 l3
  rcases hv1 with rfl | ⟨tp, rfl, ht, hc1, hp1⟩
  · go_wp2
    go_ret
    exact ⟨rfl, hkk.out⟩
  rcases hv2 with rfl | ⟨ap, rfl, ha, hc2, hp3⟩
  · go_wp2
    go_ret
    exact ⟨rfl, hkk.out⟩
  rcases hv3 with rfl | ⟨bp, rfl, hbt, hc3, hp4⟩
  · go_wp2
    go_ret
    exact ⟨rfl, hkk.out⟩
  have Hc1 := Lib.hid hc1
  have Hpp := Lib.hid (And.intro hp1 (And.intro hp3 hp4))
  obtain ⟨w0, hw0⟩ : ∃ w0, w0 = wg3 := ⟨_, rfl⟩
  rw [← hw0] at ht ha hbt hkk ⊢
  have HT0 := Lib.hid (And.intro ht (And.intro ha hbt))
  have HB0 := hkk
  have E3 := Lib.hid (same_refl n)
  have E4 := Lib.hid (same_open n n (same_refl n))
  have E9 := Lib.hid (show sameO true n ((unkN n).named ⟨#[]⟩) = true by rw [sameO_named2]; exact same_unk n n (same_refl n))
  clear ht ha hbt hc1 hc2 hc3 hkk hw0
  obtain ⟨b, hb⟩ : ∃ b, b = sameO false n s := ⟨_, rfl⟩
  have E1 := Lib.hid hb.symm
  have E2 := Lib.hid (show sameO false s n = b by rw [same_symm]; exact hb.symm)
  clear hb
  cases b with
  | true =>
    have E7 := Lib.hid (same_open n s E1.out)
    have E8 := Lib.hid (same_open s n E2.out)
    have E10 := Lib.hid (show sameO true s ((unkN n).named ⟨#[]⟩) = true by rw [sameO_named2]; exact same_unk s n E2.out)
    have hS := same_ok false (d + 1) Any Any w0 tp ap n s HT0.out.1 HT0.out.2.1
    rw [E1.out] at hS
    have HS1 := Lib.hid hS
    clear hS
    go_wp2_with fail
    refine HS1.out.mono ?_
    rintro e1 w1 ⟨rfl, hb1⟩
    have HB1 := Lib.hid (below_on' HB0.out hb1)
    have HT1 := Lib.hid (And.intro (HT0.out.1.below hb1) (And.intro (HT0.out.2.1.below hb1) (HT0.out.2.2.below hb1)))
    clear hb1 HS1 HB0 HT0
    have hS := bare_any (d + 1) w1 tp n HT1.out.1 (by omega)
    have HS2 := Lib.hid hS
    clear hS
    go_wp2_with fail
    refine HS2.out.mono ?_
    rintro e2 w2 ⟨aq1, cq1, rfl, hnq1, hb2⟩
    have HB2 := Lib.hid (below_on' HB1.out hb2)
    have HT2 := Lib.hid (And.intro (HT1.out.1.below hb2) (And.intro (HT1.out.2.1.below hb2) (HT1.out.2.2.below hb2)))
    have Nq1 := Lib.hid hnq1
    clear hnq1
    clear hb2 HS2 HB1 HT1
    have hS := bare_any (d + 1) w2 ap s HT2.out.2.1 (by omega)
    have HS3 := Lib.hid hS
    clear hS
    go_wp2_with fail
    refine HS3.out.mono ?_
    rintro e3 w3 ⟨aq2, cq2, rfl, hnq2, hb3⟩
    have HB3 := Lib.hid (below_on' HB2.out hb3)
    have HT3 := Lib.hid (And.intro (HT2.out.1.below hb3) (And.intro (HT2.out.2.1.below hb3) (HT2.out.2.2.below hb3)))
    have Nq1x := Lib.hid (Nq1.out.below hb3)
    replace Nq1 := Nq1x
    clear Nq1x
    have Nq2 := Lib.hid hnq2
    clear hnq2
    clear hb3 HS3 HB2 HT2
    have hS := equal_ok (d + 1) _ _ w3 ((bareN n).named ⟨#[]⟩) ((bareN s).named ⟨#[]⟩) aq1 cq1 aq2 cq2 Nq1.out Nq2.out
    rw [alike_names2, ← same_bare, E1.out] at hS
    have HS4 := Lib.hid hS
    clear hS
    go_wp2_with fail
    refine HS4.out.mono ?_
    rintro e4 w4 ⟨rfl, hb4⟩
    have HB4 := Lib.hid (below_on' HB3.out hb4)
    have HT4 := Lib.hid (And.intro (HT3.out.1.below hb4) (And.intro (HT3.out.2.1.below hb4) (HT3.out.2.2.below hb4)))
    clear hb4 HS4 HB3 HT3
    clear Nq1 Nq2
    have hS := same_ok false (d + 1) Any Any w4 tp ap n s HT4.out.1 HT4.out.2.1
    rw [E1.out] at hS
    have HS5 := Lib.hid hS
    clear hS
    go_wp2_with fail
    refine HS5.out.mono ?_
    rintro e5 w5 ⟨rfl, hb5⟩
    have HB5 := Lib.hid (below_on' HB4.out hb5)
    have HT5 := Lib.hid (And.intro (HT4.out.1.below hb5) (And.intro (HT4.out.2.1.below hb5) (HT4.out.2.2.below hb5)))
    clear hb5 HS5 HB4 HT4
    have hS := same_ok false (d + 1) Any Any w5 ap tp s n HT5.out.2.1 HT5.out.1
    rw [E2.out] at hS
    have HS6 := Lib.hid hS
    clear hS
    go_wp2_with fail
    refine HS6.out.mono ?_
    rintro e6 w6 ⟨rfl, hb6⟩
    have HB6 := Lib.hid (below_on' HB5.out hb6)
    have HT6 := Lib.hid (And.intro (HT5.out.1.below hb6) (And.intro (HT5.out.2.1.below hb6) (HT5.out.2.2.below hb6)))
    clear hb6 HS6 HB5 HT5
    have hS := same_ok false (d + 1) Any Any w6 tp tp n n HT6.out.1 HT6.out.1
    rw [E3.out] at hS
    have HS7 := Lib.hid hS
    clear hS
    go_wp2_with fail
    refine HS7.out.mono ?_
    rintro e7 w7 ⟨rfl, hb7⟩
    have HB7 := Lib.hid (below_on' HB6.out hb7)
    have HT7 := Lib.hid (And.intro (HT6.out.1.below hb7) (And.intro (HT6.out.2.1.below hb7) (HT6.out.2.2.below hb7)))
    clear hb7 HS7 HB6 HT6
    have hS := same_ok true (d + 1) Any Any w7 tp tp n n HT7.out.1 HT7.out.1
    rw [E4.out] at hS
    have HS8 := Lib.hid hS
    clear hS
    go_wp2_with fail
    refine HS8.out.mono ?_
    rintro e8 w8 ⟨rfl, hb8⟩
    have HB8 := Lib.hid (below_on' HB7.out hb8)
    have HT8 := Lib.hid (And.intro (HT7.out.1.below hb8) (And.intro (HT7.out.2.1.below hb8) (HT7.out.2.2.below hb8)))
    clear hb8 HS8 HB7 HT7
    have hS := same_ok false (d + 1) Any Any w8 tp ap n s HT8.out.1 HT8.out.2.1
    rw [E1.out] at hS
    have HS9 := Lib.hid hS
    clear hS
    go_wp2_with fail
    refine HS9.out.mono ?_
    rintro e9 w9 ⟨rfl, hb9⟩
    have HB9 := Lib.hid (below_on' HB8.out hb9)
    have HT9 := Lib.hid (And.intro (HT8.out.1.below hb9) (And.intro (HT8.out.2.1.below hb9) (HT8.out.2.2.below hb9)))
    clear hb9 HS9 HB8 HT8
    obtain ⟨b2, hb2⟩ : ∃ b, b = sameO false s r := ⟨_, rfl⟩
    have E5 := Lib.hid hb2.symm
    clear hb2
    have hS := same_ok false (d + 1) Any Any w9 ap bp s r HT9.out.2.1 HT9.out.2.2
    rw [E5.out] at hS
    have HS10 := Lib.hid hS
    clear hS
    go_wp2_with fail
    refine HS10.out.mono ?_
    rintro e10 w10 ⟨rfl, hb10⟩
    have HB10 := Lib.hid (below_on' HB9.out hb10)
    have HT10 := Lib.hid (And.intro (HT9.out.1.below hb10) (And.intro (HT9.out.2.1.below hb10) (HT9.out.2.2.below hb10)))
    clear hb10 HS10 HB9 HT9
    cases b2 with
    | true =>
      have E6 := Lib.hid (same_trans n s r E1.out E5.out)
      have hS := same_ok false (d + 1) Any Any w10 tp bp n r HT10.out.1 HT10.out.2.2
      rw [E6.out] at hS
      have HS11 := Lib.hid hS
      clear hS
      go_wp2_with fail
      refine HS11.out.mono ?_
      rintro e11 w11 ⟨rfl, hb11⟩
      have HB11 := Lib.hid (below_on' HB10.out hb11)
      have HT11 := Lib.hid (And.intro (HT10.out.1.below hb11) (And.intro (HT10.out.2.1.below hb11) (HT10.out.2.2.below hb11)))
      clear hb11 HS11 HB10 HT10
      have hS := same_ok false (d + 1) Any Any w11 tp ap n s HT11.out.1 HT11.out.2.1
      rw [E1.out] at hS
      have HS12 := Lib.hid hS
      clear hS
      go_wp2_with fail
      refine HS12.out.mono ?_
      rintro e12 w12 ⟨rfl, hb12⟩
      have HB12 := Lib.hid (below_on' HB11.out hb12)
      have HT12 := Lib.hid (And.intro (HT11.out.1.below hb12) (And.intro (HT11.out.2.1.below hb12) (HT11.out.2.2.below hb12)))
      clear hb12 HS12 HB11 HT11
      have hS := same_ok true (d + 1) Any Any w12 tp ap n s HT12.out.1 HT12.out.2.1
      rw [E7.out] at hS
      have HS13 := Lib.hid hS
      clear hS
      go_wp2_with fail
      refine HS13.out.mono ?_
      rintro e13 w13 ⟨rfl, hb13⟩
      have HB13 := Lib.hid (below_on' HB12.out hb13)
      have HT13 := Lib.hid (And.intro (HT12.out.1.below hb13) (And.intro (HT12.out.2.1.below hb13) (HT12.out.2.2.below hb13)))
      clear hb13 HS13 HB12 HT12
      have hS := same_ok true (d + 1) Any Any w13 tp ap n s HT13.out.1 HT13.out.2.1
      rw [E7.out] at hS
      have HS14 := Lib.hid hS
      clear hS
      go_wp2_with fail
      refine HS14.out.mono ?_
      rintro e14 w14 ⟨rfl, hb14⟩
      have HB14 := Lib.hid (below_on' HB13.out hb14)
      have HT14 := Lib.hid (And.intro (HT13.out.1.below hb14) (And.intro (HT13.out.2.1.below hb14) (HT13.out.2.2.below hb14)))
      clear hb14 HS14 HB13 HT13
      have hS := treeNode_of (d + 1) w14 ⟨tp, 0, none⟩ (n.named ⟨#[]⟩) (fun w2 hb => node_ok (d + 1) _ w2 tp n ⟨#[]⟩ (TreeAt.mono (G := fun b => b < w2.heap.size) (fun b _ hb2 => hb2) _ _ _ (HT14.out.1.below hb)) (fun b hb => hb) (by omega) (by show (0 : Nat) ≤ _; omega))
      have HS15 := Lib.hid hS
      clear hS
      go_wp2_with fail
      refine HS15.out.mono ?_
      rintro e15 w15 ⟨aq1, cq1, rfl, hnq1, hb15⟩
      have HB15 := Lib.hid (below_on' HB14.out hb15)
      have HT15 := Lib.hid (And.intro (HT14.out.1.below hb15) (And.intro (HT14.out.2.1.below hb15) (HT14.out.2.2.below hb15)))
      have Nq1 := Lib.hid hnq1
      clear hnq1
      clear hb15 HS15 HB14 HT14
      have hS := treeNode_of (d + 1) w15 ⟨ap, 0, none⟩ (s.named ⟨#[]⟩) (fun w2 hb => node_ok (d + 1) _ w2 ap s ⟨#[]⟩ (TreeAt.mono (G := fun b => b < w2.heap.size) (fun b _ hb2 => hb2) _ _ _ (HT15.out.2.1.below hb)) (fun b hb => hb) (by omega) (by show (0 : Nat) ≤ _; omega))
      have HS16 := Lib.hid hS
      clear hS
      go_wp2_with fail
      refine HS16.out.mono ?_
      rintro e16 w16 ⟨aq2, cq2, rfl, hnq2, hb16⟩
      have HB16 := Lib.hid (below_on' HB15.out hb16)
      have HT16 := Lib.hid (And.intro (HT15.out.1.below hb16) (And.intro (HT15.out.2.1.below hb16) (HT15.out.2.2.below hb16)))
      have Nq1x := Lib.hid (Nq1.out.below hb16)
      replace Nq1 := Nq1x
      clear Nq1x
      have Nq2 := Lib.hid hnq2
      clear hnq2
      clear hb16 HS16 HB15 HT15
      have hS := like_ok (d + 1) _ _ w16 (n.named ⟨#[]⟩) (s.named ⟨#[]⟩) aq1 cq1 aq2 cq2 Nq1.out Nq2.out
      rw [likeR_named, E7.out] at hS
      have HS17 := Lib.hid hS
      clear hS
      go_wp2_with fail
      refine HS17.out.mono ?_
      rintro e17 w17 ⟨rfl, hb17⟩
      have HB17 := Lib.hid (below_on' HB16.out hb17)
      have HT17 := Lib.hid (And.intro (HT16.out.1.below hb17) (And.intro (HT16.out.2.1.below hb17) (HT16.out.2.2.below hb17)))
      clear hb17 HS17 HB16 HT16
      clear Nq1 Nq2
      have hS := same_ok true (d + 1) Any Any w17 ap tp s n HT17.out.2.1 HT17.out.1
      rw [E8.out] at hS
      have HS18 := Lib.hid hS
      clear hS
      go_wp2_with fail
      refine HS18.out.mono ?_
      rintro e18 w18 ⟨rfl, hb18⟩
      have HB18 := Lib.hid (below_on' HB17.out hb18)
      have HT18 := Lib.hid (And.intro (HT17.out.1.below hb18) (And.intro (HT17.out.2.1.below hb18) (HT17.out.2.2.below hb18)))
      clear hb18 HS18 HB17 HT17
      have hS := treeNode_of (d + 1) w18 ⟨ap, 0, none⟩ (s.named ⟨#[]⟩) (fun w2 hb => node_ok (d + 1) _ w2 ap s ⟨#[]⟩ (TreeAt.mono (G := fun b => b < w2.heap.size) (fun b _ hb2 => hb2) _ _ _ (HT18.out.2.1.below hb)) (fun b hb => hb) (by omega) (by show (0 : Nat) ≤ _; omega))
      have HS19 := Lib.hid hS
      clear hS
      go_wp2_with fail
      refine HS19.out.mono ?_
      rintro e19 w19 ⟨aq3, cq3, rfl, hnq3, hb19⟩
      have HB19 := Lib.hid (below_on' HB18.out hb19)
      have HT19 := Lib.hid (And.intro (HT18.out.1.below hb19) (And.intro (HT18.out.2.1.below hb19) (HT18.out.2.2.below hb19)))
      have Nq3 := Lib.hid hnq3
      clear hnq3
      clear hb19 HS19 HB18 HT18
      have hS := treeNode_of (d + 1) w19 ⟨tp, 0, none⟩ (n.named ⟨#[]⟩) (fun w2 hb => node_ok (d + 1) _ w2 tp n ⟨#[]⟩ (TreeAt.mono (G := fun b => b < w2.heap.size) (fun b _ hb2 => hb2) _ _ _ (HT19.out.1.below hb)) (fun b hb => hb) (by omega) (by show (0 : Nat) ≤ _; omega))
      have HS20 := Lib.hid hS
      clear hS
      go_wp2_with fail
      refine HS20.out.mono ?_
      rintro e20 w20 ⟨aq4, cq4, rfl, hnq4, hb20⟩
      have HB20 := Lib.hid (below_on' HB19.out hb20)
      have HT20 := Lib.hid (And.intro (HT19.out.1.below hb20) (And.intro (HT19.out.2.1.below hb20) (HT19.out.2.2.below hb20)))
      have Nq3x := Lib.hid (Nq3.out.below hb20)
      replace Nq3 := Nq3x
      clear Nq3x
      have Nq4 := Lib.hid hnq4
      clear hnq4
      clear hb20 HS20 HB19 HT19
      have hS := like_ok (d + 1) _ _ w20 (s.named ⟨#[]⟩) (n.named ⟨#[]⟩) aq3 cq3 aq4 cq4 Nq3.out Nq4.out
      rw [likeR_named, E8.out] at hS
      have HS21 := Lib.hid hS
      clear hS
      go_wp2_with fail
      refine HS21.out.mono ?_
      rintro e21 w21 ⟨rfl, hb21⟩
      have HB21 := Lib.hid (below_on' HB20.out hb21)
      have HT21 := Lib.hid (And.intro (HT20.out.1.below hb21) (And.intro (HT20.out.2.1.below hb21) (HT20.out.2.2.below hb21)))
      clear hb21 HS21 HB20 HT20
      clear Nq3 Nq4
      have hS := treeNode_of (d + 1) w21 ⟨tp, 0, none⟩ (n.named ⟨#[]⟩) (fun w2 hb => node_ok (d + 1) _ w2 tp n ⟨#[]⟩ (TreeAt.mono (G := fun b => b < w2.heap.size) (fun b _ hb2 => hb2) _ _ _ (HT21.out.1.below hb)) (fun b hb => hb) (by omega) (by show (0 : Nat) ≤ _; omega))
      have HS22 := Lib.hid hS
      clear hS
      go_wp2_with fail
      refine HS22.out.mono ?_
      rintro e22 w22 ⟨aq5, cq5, rfl, hnq5, hb22⟩
      have HB22 := Lib.hid (below_on' HB21.out hb22)
      have HT22 := Lib.hid (And.intro (HT21.out.1.below hb22) (And.intro (HT21.out.2.1.below hb22) (HT21.out.2.2.below hb22)))
      have Nq5 := Lib.hid hnq5
      clear hnq5
      clear hb22 HS22 HB21 HT21
      have hS := unk_ok (d + 1) _ w22 (n.named ⟨#[]⟩) aq5 cq5 (NodeIn.mono (G := fun b => b < w22.heap.size) Nq5.out (fun b _ hl => hl)) (fun b hb => hb) (by have := named_le n; omega)
      rw [unkN_named] at hS
      have HS23 := Lib.hid hS
      clear hS
      go_wp2_with fail
      refine HS23.out.mono ?_
      rintro e23 w23 ⟨aq6, cq6, rfl, hnq6, hb23⟩
      have HB23 := Lib.hid (below_on' HB22.out hb23)
      have HT23 := Lib.hid (And.intro (HT22.out.1.below hb23) (And.intro (HT22.out.2.1.below hb23) (HT22.out.2.2.below hb23)))
      have Nq6 := Lib.hid hnq6
      clear hnq6
      clear hb23 HS23 HB22 HT22
      clear Nq5
      have hS := of_good w23 _ (d + 1) ((unkN n).named ⟨#[]⟩) aq6 cq6 (NodeIn.mono (G := fun b => b < w23.heap.size) Nq6.out (fun b _ hl => hl)) (fun b hb => hb) (by have h1 := named_le (unkN n); have h2 : (unkN n).parts = n.parts := mapN_parts _ _ n; omega) (by rw [chkErr_named]; exact unk_good n Hc1.out)
      have HS24 := Lib.hid hS
      clear hS
      go_wp2_with fail
      refine HS24.out.mono ?_
      rintro e24 w24 ⟨op, rfl, hto, hb24⟩
      have HB24 := Lib.hid (below_on' HB23.out hb24)
      have HT24 := Lib.hid (And.intro (HT23.out.1.below hb24).more (And.intro (HT23.out.2.1.below hb24).more (And.intro (HT23.out.2.2.below hb24).more hto.any)))
      clear hto
      clear hb24 HS24 HB23 HT23
      clear Nq6
      have hS := same_ok true (d + 1 + 1) Any Any w24 tp op n ((unkN n).named ⟨#[]⟩) HT24.out.1 HT24.out.2.2.2
      rw [E9.out] at hS
      have HS25 := Lib.hid hS
      clear hS
      go_wp2_with fail
      refine HS25.out.mono ?_
      rintro e25 w25 ⟨rfl, hb25⟩
      have HB25 := Lib.hid (below_on' HB24.out hb25)
      have HT25 := Lib.hid (And.intro (HT24.out.1.below hb25) (And.intro (HT24.out.2.1.below hb25) (And.intro (HT24.out.2.2.1.below hb25) (HT24.out.2.2.2.below hb25))))
      clear hb25 HS25 HB24 HT24
      have hS := same_ok false (d + 1 + 1) Any Any w25 ap tp s n HT25.out.2.1 HT25.out.1
      rw [E2.out] at hS
      have HS26 := Lib.hid hS
      clear hS
      go_wp2_with fail
      refine HS26.out.mono ?_
      rintro e26 w26 ⟨rfl, hb26⟩
      have HB26 := Lib.hid (below_on' HB25.out hb26)
      have HT26 := Lib.hid (And.intro (HT25.out.1.below hb26) (And.intro (HT25.out.2.1.below hb26) (And.intro (HT25.out.2.2.1.below hb26) (HT25.out.2.2.2.below hb26))))
      clear hb26 HS26 HB25 HT25
      have hS := same_ok true (d + 1 + 1) Any Any w26 ap op s ((unkN n).named ⟨#[]⟩) HT26.out.2.1 HT26.out.2.2.2
      rw [E10.out] at hS
      have HS27 := Lib.hid hS
      clear hS
      go_wp2_with fail
      refine HS27.out.mono ?_
      rintro e27 w27 ⟨rfl, hb27⟩
      have HB27 := Lib.hid (below_on' HB26.out hb27)
      have HT27 := Lib.hid (And.intro (HT26.out.1.below hb27) (And.intro (HT26.out.2.1.below hb27) (And.intro (HT26.out.2.2.1.below hb27) (HT26.out.2.2.2.below hb27))))
      clear hb27 HS27 HB26 HT26
      have hS := same_ok true (d + 1 + 1) Any Any w27 tp ap n s HT27.out.1 HT27.out.2.1
      rw [E7.out] at hS
      have HS28 := Lib.hid hS
      clear hS
      go_wp2_with fail
      refine HS28.out.mono ?_
      rintro e28 w28 ⟨rfl, hb28⟩
      have HB28 := Lib.hid (below_on' HB27.out hb28)
      have HT28 := Lib.hid (And.intro (HT27.out.1.below hb28) (And.intro (HT27.out.2.1.below hb28) (And.intro (HT27.out.2.2.1.below hb28) (HT27.out.2.2.2.below hb28))))
      clear hb28 HS28 HB27 HT27
      obtain ⟨b3, hb3⟩ : ∃ b, b = sameO false s ((unkN n).named ⟨#[]⟩) := ⟨_, rfl⟩
      have E11 := Lib.hid hb3.symm
      clear hb3
      have hS := same_ok false (d + 1 + 1) Any Any w28 ap op s ((unkN n).named ⟨#[]⟩) HT28.out.2.1 HT28.out.2.2.2
      rw [E11.out] at hS
      have HS29 := Lib.hid hS
      clear hS
      go_wp2_with fail
      refine HS29.out.mono ?_
      rintro e29 w29 ⟨rfl, hb29⟩
      have HB29 := Lib.hid (below_on' HB28.out hb29)
      have HT29 := Lib.hid (And.intro (HT28.out.1.below hb29) (And.intro (HT28.out.2.1.below hb29) (And.intro (HT28.out.2.2.1.below hb29) (HT28.out.2.2.2.below hb29))))
      clear hb29 HS29 HB28 HT28
      cases b3 with
      | true =>
        have hS := same_ok true (d + 1 + 1) Any Any w29 tp op n ((unkN n).named ⟨#[]⟩) HT29.out.1 HT29.out.2.2.2
        rw [E9.out] at hS
        have HS30 := Lib.hid hS
        clear hS
        go_wp2_with fail
        refine HS30.out.mono ?_
        rintro e30 w30 ⟨rfl, hb30⟩
        have HB30 := Lib.hid (below_on' HB29.out hb30)
        have HT30 := Lib.hid (And.intro (HT29.out.1.below hb30) (And.intro (HT29.out.2.1.below hb30) (And.intro (HT29.out.2.2.1.below hb30) (HT29.out.2.2.2.below hb30))))
        clear hb30 HS30 HB29 HT29
        go_wp2
        go_ret
        exact ⟨rfl, HB30.out⟩
      | false =>
        go_wp2
        go_ret
        exact ⟨rfl, HB29.out⟩
    | false =>
      have hS := same_ok false (d + 1) Any Any w10 tp ap n s HT10.out.1 HT10.out.2.1
      rw [E1.out] at hS
      have HS11 := Lib.hid hS
      clear hS
      go_wp2_with fail
      refine HS11.out.mono ?_
      rintro e11 w11 ⟨rfl, hb11⟩
      have HB11 := Lib.hid (below_on' HB10.out hb11)
      have HT11 := Lib.hid (And.intro (HT10.out.1.below hb11) (And.intro (HT10.out.2.1.below hb11) (HT10.out.2.2.below hb11)))
      clear hb11 HS11 HB10 HT10
      have hS := same_ok true (d + 1) Any Any w11 tp ap n s HT11.out.1 HT11.out.2.1
      rw [E7.out] at hS
      have HS12 := Lib.hid hS
      clear hS
      go_wp2_with fail
      refine HS12.out.mono ?_
      rintro e12 w12 ⟨rfl, hb12⟩
      have HB12 := Lib.hid (below_on' HB11.out hb12)
      have HT12 := Lib.hid (And.intro (HT11.out.1.below hb12) (And.intro (HT11.out.2.1.below hb12) (HT11.out.2.2.below hb12)))
      clear hb12 HS12 HB11 HT11
      have hS := same_ok true (d + 1) Any Any w12 tp ap n s HT12.out.1 HT12.out.2.1
      rw [E7.out] at hS
      have HS13 := Lib.hid hS
      clear hS
      go_wp2_with fail
      refine HS13.out.mono ?_
      rintro e13 w13 ⟨rfl, hb13⟩
      have HB13 := Lib.hid (below_on' HB12.out hb13)
      have HT13 := Lib.hid (And.intro (HT12.out.1.below hb13) (And.intro (HT12.out.2.1.below hb13) (HT12.out.2.2.below hb13)))
      clear hb13 HS13 HB12 HT12
      have hS := treeNode_of (d + 1) w13 ⟨tp, 0, none⟩ (n.named ⟨#[]⟩) (fun w2 hb => node_ok (d + 1) _ w2 tp n ⟨#[]⟩ (TreeAt.mono (G := fun b => b < w2.heap.size) (fun b _ hb2 => hb2) _ _ _ (HT13.out.1.below hb)) (fun b hb => hb) (by omega) (by show (0 : Nat) ≤ _; omega))
      have HS14 := Lib.hid hS
      clear hS
      go_wp2_with fail
      refine HS14.out.mono ?_
      rintro e14 w14 ⟨aq1, cq1, rfl, hnq1, hb14⟩
      have HB14 := Lib.hid (below_on' HB13.out hb14)
      have HT14 := Lib.hid (And.intro (HT13.out.1.below hb14) (And.intro (HT13.out.2.1.below hb14) (HT13.out.2.2.below hb14)))
      have Nq1 := Lib.hid hnq1
      clear hnq1
      clear hb14 HS14 HB13 HT13
      have hS := treeNode_of (d + 1) w14 ⟨ap, 0, none⟩ (s.named ⟨#[]⟩) (fun w2 hb => node_ok (d + 1) _ w2 ap s ⟨#[]⟩ (TreeAt.mono (G := fun b => b < w2.heap.size) (fun b _ hb2 => hb2) _ _ _ (HT14.out.2.1.below hb)) (fun b hb => hb) (by omega) (by show (0 : Nat) ≤ _; omega))
      have HS15 := Lib.hid hS
      clear hS
      go_wp2_with fail
      refine HS15.out.mono ?_
      rintro e15 w15 ⟨aq2, cq2, rfl, hnq2, hb15⟩
      have HB15 := Lib.hid (below_on' HB14.out hb15)
      have HT15 := Lib.hid (And.intro (HT14.out.1.below hb15) (And.intro (HT14.out.2.1.below hb15) (HT14.out.2.2.below hb15)))
      have Nq1x := Lib.hid (Nq1.out.below hb15)
      replace Nq1 := Nq1x
      clear Nq1x
      have Nq2 := Lib.hid hnq2
      clear hnq2
      clear hb15 HS15 HB14 HT14
      have hS := like_ok (d + 1) _ _ w15 (n.named ⟨#[]⟩) (s.named ⟨#[]⟩) aq1 cq1 aq2 cq2 Nq1.out Nq2.out
      rw [likeR_named, E7.out] at hS
      have HS16 := Lib.hid hS
      clear hS
      go_wp2_with fail
      refine HS16.out.mono ?_
      rintro e16 w16 ⟨rfl, hb16⟩
      have HB16 := Lib.hid (below_on' HB15.out hb16)
      have HT16 := Lib.hid (And.intro (HT15.out.1.below hb16) (And.intro (HT15.out.2.1.below hb16) (HT15.out.2.2.below hb16)))
      clear hb16 HS16 HB15 HT15
      clear Nq1 Nq2
      have hS := same_ok true (d + 1) Any Any w16 ap tp s n HT16.out.2.1 HT16.out.1
      rw [E8.out] at hS
      have HS17 := Lib.hid hS
      clear hS
      go_wp2_with fail
      refine HS17.out.mono ?_
      rintro e17 w17 ⟨rfl, hb17⟩
      have HB17 := Lib.hid (below_on' HB16.out hb17)
      have HT17 := Lib.hid (And.intro (HT16.out.1.below hb17) (And.intro (HT16.out.2.1.below hb17) (HT16.out.2.2.below hb17)))
      clear hb17 HS17 HB16 HT16
      have hS := treeNode_of (d + 1) w17 ⟨ap, 0, none⟩ (s.named ⟨#[]⟩) (fun w2 hb => node_ok (d + 1) _ w2 ap s ⟨#[]⟩ (TreeAt.mono (G := fun b => b < w2.heap.size) (fun b _ hb2 => hb2) _ _ _ (HT17.out.2.1.below hb)) (fun b hb => hb) (by omega) (by show (0 : Nat) ≤ _; omega))
      have HS18 := Lib.hid hS
      clear hS
      go_wp2_with fail
      refine HS18.out.mono ?_
      rintro e18 w18 ⟨aq3, cq3, rfl, hnq3, hb18⟩
      have HB18 := Lib.hid (below_on' HB17.out hb18)
      have HT18 := Lib.hid (And.intro (HT17.out.1.below hb18) (And.intro (HT17.out.2.1.below hb18) (HT17.out.2.2.below hb18)))
      have Nq3 := Lib.hid hnq3
      clear hnq3
      clear hb18 HS18 HB17 HT17
      have hS := treeNode_of (d + 1) w18 ⟨tp, 0, none⟩ (n.named ⟨#[]⟩) (fun w2 hb => node_ok (d + 1) _ w2 tp n ⟨#[]⟩ (TreeAt.mono (G := fun b => b < w2.heap.size) (fun b _ hb2 => hb2) _ _ _ (HT18.out.1.below hb)) (fun b hb => hb) (by omega) (by show (0 : Nat) ≤ _; omega))
      have HS19 := Lib.hid hS
      clear hS
      go_wp2_with fail
      refine HS19.out.mono ?_
      rintro e19 w19 ⟨aq4, cq4, rfl, hnq4, hb19⟩
      have HB19 := Lib.hid (below_on' HB18.out hb19)
      have HT19 := Lib.hid (And.intro (HT18.out.1.below hb19) (And.intro (HT18.out.2.1.below hb19) (HT18.out.2.2.below hb19)))
      have Nq3x := Lib.hid (Nq3.out.below hb19)
      replace Nq3 := Nq3x
      clear Nq3x
      have Nq4 := Lib.hid hnq4
      clear hnq4
      clear hb19 HS19 HB18 HT18
      have hS := like_ok (d + 1) _ _ w19 (s.named ⟨#[]⟩) (n.named ⟨#[]⟩) aq3 cq3 aq4 cq4 Nq3.out Nq4.out
      rw [likeR_named, E8.out] at hS
      have HS20 := Lib.hid hS
      clear hS
      go_wp2_with fail
      refine HS20.out.mono ?_
      rintro e20 w20 ⟨rfl, hb20⟩
      have HB20 := Lib.hid (below_on' HB19.out hb20)
      have HT20 := Lib.hid (And.intro (HT19.out.1.below hb20) (And.intro (HT19.out.2.1.below hb20) (HT19.out.2.2.below hb20)))
      clear hb20 HS20 HB19 HT19
      clear Nq3 Nq4
      have hS := treeNode_of (d + 1) w20 ⟨tp, 0, none⟩ (n.named ⟨#[]⟩) (fun w2 hb => node_ok (d + 1) _ w2 tp n ⟨#[]⟩ (TreeAt.mono (G := fun b => b < w2.heap.size) (fun b _ hb2 => hb2) _ _ _ (HT20.out.1.below hb)) (fun b hb => hb) (by omega) (by show (0 : Nat) ≤ _; omega))
      have HS21 := Lib.hid hS
      clear hS
      go_wp2_with fail
      refine HS21.out.mono ?_
      rintro e21 w21 ⟨aq5, cq5, rfl, hnq5, hb21⟩
      have HB21 := Lib.hid (below_on' HB20.out hb21)
      have HT21 := Lib.hid (And.intro (HT20.out.1.below hb21) (And.intro (HT20.out.2.1.below hb21) (HT20.out.2.2.below hb21)))
      have Nq5 := Lib.hid hnq5
      clear hnq5
      clear hb21 HS21 HB20 HT20
      have hS := unk_ok (d + 1) _ w21 (n.named ⟨#[]⟩) aq5 cq5 (NodeIn.mono (G := fun b => b < w21.heap.size) Nq5.out (fun b _ hl => hl)) (fun b hb => hb) (by have := named_le n; omega)
      rw [unkN_named] at hS
      have HS22 := Lib.hid hS
      clear hS
      go_wp2_with fail
      refine HS22.out.mono ?_
      rintro e22 w22 ⟨aq6, cq6, rfl, hnq6, hb22⟩
      have HB22 := Lib.hid (below_on' HB21.out hb22)
      have HT22 := Lib.hid (And.intro (HT21.out.1.below hb22) (And.intro (HT21.out.2.1.below hb22) (HT21.out.2.2.below hb22)))
      have Nq6 := Lib.hid hnq6
      clear hnq6
      clear hb22 HS22 HB21 HT21
      clear Nq5
      have hS := of_good w22 _ (d + 1) ((unkN n).named ⟨#[]⟩) aq6 cq6 (NodeIn.mono (G := fun b => b < w22.heap.size) Nq6.out (fun b _ hl => hl)) (fun b hb => hb) (by have h1 := named_le (unkN n); have h2 : (unkN n).parts = n.parts := mapN_parts _ _ n; omega) (by rw [chkErr_named]; exact unk_good n Hc1.out)
      have HS23 := Lib.hid hS
      clear hS
      go_wp2_with fail
      refine HS23.out.mono ?_
      rintro e23 w23 ⟨op, rfl, hto, hb23⟩
      have HB23 := Lib.hid (below_on' HB22.out hb23)
      have HT23 := Lib.hid (And.intro (HT22.out.1.below hb23).more (And.intro (HT22.out.2.1.below hb23).more (And.intro (HT22.out.2.2.below hb23).more hto.any)))
      clear hto
      clear hb23 HS23 HB22 HT22
      clear Nq6
      have hS := same_ok true (d + 1 + 1) Any Any w23 tp op n ((unkN n).named ⟨#[]⟩) HT23.out.1 HT23.out.2.2.2
      rw [E9.out] at hS
      have HS24 := Lib.hid hS
      clear hS
      go_wp2_with fail
      refine HS24.out.mono ?_
      rintro e24 w24 ⟨rfl, hb24⟩
      have HB24 := Lib.hid (below_on' HB23.out hb24)
      have HT24 := Lib.hid (And.intro (HT23.out.1.below hb24) (And.intro (HT23.out.2.1.below hb24) (And.intro (HT23.out.2.2.1.below hb24) (HT23.out.2.2.2.below hb24))))
      clear hb24 HS24 HB23 HT23
      have hS := same_ok false (d + 1 + 1) Any Any w24 ap tp s n HT24.out.2.1 HT24.out.1
      rw [E2.out] at hS
      have HS25 := Lib.hid hS
      clear hS
      go_wp2_with fail
      refine HS25.out.mono ?_
      rintro e25 w25 ⟨rfl, hb25⟩
      have HB25 := Lib.hid (below_on' HB24.out hb25)
      have HT25 := Lib.hid (And.intro (HT24.out.1.below hb25) (And.intro (HT24.out.2.1.below hb25) (And.intro (HT24.out.2.2.1.below hb25) (HT24.out.2.2.2.below hb25))))
      clear hb25 HS25 HB24 HT24
      have hS := same_ok true (d + 1 + 1) Any Any w25 ap op s ((unkN n).named ⟨#[]⟩) HT25.out.2.1 HT25.out.2.2.2
      rw [E10.out] at hS
      have HS26 := Lib.hid hS
      clear hS
      go_wp2_with fail
      refine HS26.out.mono ?_
      rintro e26 w26 ⟨rfl, hb26⟩
      have HB26 := Lib.hid (below_on' HB25.out hb26)
      have HT26 := Lib.hid (And.intro (HT25.out.1.below hb26) (And.intro (HT25.out.2.1.below hb26) (And.intro (HT25.out.2.2.1.below hb26) (HT25.out.2.2.2.below hb26))))
      clear hb26 HS26 HB25 HT25
      have hS := same_ok true (d + 1 + 1) Any Any w26 tp ap n s HT26.out.1 HT26.out.2.1
      rw [E7.out] at hS
      have HS27 := Lib.hid hS
      clear hS
      go_wp2_with fail
      refine HS27.out.mono ?_
      rintro e27 w27 ⟨rfl, hb27⟩
      have HB27 := Lib.hid (below_on' HB26.out hb27)
      have HT27 := Lib.hid (And.intro (HT26.out.1.below hb27) (And.intro (HT26.out.2.1.below hb27) (And.intro (HT26.out.2.2.1.below hb27) (HT26.out.2.2.2.below hb27))))
      clear hb27 HS27 HB26 HT26
      obtain ⟨b3, hb3⟩ : ∃ b, b = sameO false s ((unkN n).named ⟨#[]⟩) := ⟨_, rfl⟩
      have E11 := Lib.hid hb3.symm
      clear hb3
      have hS := same_ok false (d + 1 + 1) Any Any w27 ap op s ((unkN n).named ⟨#[]⟩) HT27.out.2.1 HT27.out.2.2.2
      rw [E11.out] at hS
      have HS28 := Lib.hid hS
      clear hS
      go_wp2_with fail
      refine HS28.out.mono ?_
      rintro e28 w28 ⟨rfl, hb28⟩
      have HB28 := Lib.hid (below_on' HB27.out hb28)
      have HT28 := Lib.hid (And.intro (HT27.out.1.below hb28) (And.intro (HT27.out.2.1.below hb28) (And.intro (HT27.out.2.2.1.below hb28) (HT27.out.2.2.2.below hb28))))
      clear hb28 HS28 HB27 HT27
      cases b3 with
      | true =>
        have hS := same_ok true (d + 1 + 1) Any Any w28 tp op n ((unkN n).named ⟨#[]⟩) HT28.out.1 HT28.out.2.2.2
        rw [E9.out] at hS
        have HS29 := Lib.hid hS
        clear hS
        go_wp2_with fail
        refine HS29.out.mono ?_
        rintro e29 w29 ⟨rfl, hb29⟩
        have HB29 := Lib.hid (below_on' HB28.out hb29)
        have HT29 := Lib.hid (And.intro (HT28.out.1.below hb29) (And.intro (HT28.out.2.1.below hb29) (And.intro (HT28.out.2.2.1.below hb29) (HT28.out.2.2.2.below hb29))))
        clear hb29 HS29 HB28 HT28
        go_wp2
        go_ret
        exact ⟨rfl, HB29.out⟩
      | false =>
        go_wp2
        go_ret
        exact ⟨rfl, HB28.out⟩
  | false =>
    obtain ⟨o1, ho1⟩ : ∃ b, b = sameO true n s := ⟨_, rfl⟩
    obtain ⟨o2, ho2⟩ : ∃ b, b = sameO true s n := ⟨_, rfl⟩
    have E7 := Lib.hid ho1.symm
    have E8 := Lib.hid ho2.symm
    clear ho1 ho2
    have hS := same_ok false (d + 1) Any Any w0 tp ap n s HT0.out.1 HT0.out.2.1
    rw [E1.out] at hS
    have HS1 := Lib.hid hS
    clear hS
    go_wp2_with fail
    refine HS1.out.mono ?_
    rintro e1 w1 ⟨rfl, hb1⟩
    have HB1 := Lib.hid (below_on' HB0.out hb1)
    have HT1 := Lib.hid (And.intro (HT0.out.1.below hb1) (And.intro (HT0.out.2.1.below hb1) (HT0.out.2.2.below hb1)))
    clear hb1 HS1 HB0 HT0
    have hS := bare_any (d + 1) w1 tp n HT1.out.1 (by omega)
    have HS2 := Lib.hid hS
    clear hS
    go_wp2_with fail
    refine HS2.out.mono ?_
    rintro e2 w2 ⟨aq1, cq1, rfl, hnq1, hb2⟩
    have HB2 := Lib.hid (below_on' HB1.out hb2)
    have HT2 := Lib.hid (And.intro (HT1.out.1.below hb2) (And.intro (HT1.out.2.1.below hb2) (HT1.out.2.2.below hb2)))
    have Nq1 := Lib.hid hnq1
    clear hnq1
    clear hb2 HS2 HB1 HT1
    have hS := bare_any (d + 1) w2 ap s HT2.out.2.1 (by omega)
    have HS3 := Lib.hid hS
    clear hS
    go_wp2_with fail
    refine HS3.out.mono ?_
    rintro e3 w3 ⟨aq2, cq2, rfl, hnq2, hb3⟩
    have HB3 := Lib.hid (below_on' HB2.out hb3)
    have HT3 := Lib.hid (And.intro (HT2.out.1.below hb3) (And.intro (HT2.out.2.1.below hb3) (HT2.out.2.2.below hb3)))
    have Nq1x := Lib.hid (Nq1.out.below hb3)
    replace Nq1 := Nq1x
    clear Nq1x
    have Nq2 := Lib.hid hnq2
    clear hnq2
    clear hb3 HS3 HB2 HT2
    have hS := equal_ok (d + 1) _ _ w3 ((bareN n).named ⟨#[]⟩) ((bareN s).named ⟨#[]⟩) aq1 cq1 aq2 cq2 Nq1.out Nq2.out
    rw [alike_names2, ← same_bare, E1.out] at hS
    have HS4 := Lib.hid hS
    clear hS
    go_wp2_with fail
    refine HS4.out.mono ?_
    rintro e4 w4 ⟨rfl, hb4⟩
    have HB4 := Lib.hid (below_on' HB3.out hb4)
    have HT4 := Lib.hid (And.intro (HT3.out.1.below hb4) (And.intro (HT3.out.2.1.below hb4) (HT3.out.2.2.below hb4)))
    clear hb4 HS4 HB3 HT3
    clear Nq1 Nq2
    have hS := same_ok false (d + 1) Any Any w4 tp ap n s HT4.out.1 HT4.out.2.1
    rw [E1.out] at hS
    have HS5 := Lib.hid hS
    clear hS
    go_wp2_with fail
    refine HS5.out.mono ?_
    rintro e5 w5 ⟨rfl, hb5⟩
    have HB5 := Lib.hid (below_on' HB4.out hb5)
    have HT5 := Lib.hid (And.intro (HT4.out.1.below hb5) (And.intro (HT4.out.2.1.below hb5) (HT4.out.2.2.below hb5)))
    clear hb5 HS5 HB4 HT4
    have hS := same_ok false (d + 1) Any Any w5 ap tp s n HT5.out.2.1 HT5.out.1
    rw [E2.out] at hS
    have HS6 := Lib.hid hS
    clear hS
    go_wp2_with fail
    refine HS6.out.mono ?_
    rintro e6 w6 ⟨rfl, hb6⟩
    have HB6 := Lib.hid (below_on' HB5.out hb6)
    have HT6 := Lib.hid (And.intro (HT5.out.1.below hb6) (And.intro (HT5.out.2.1.below hb6) (HT5.out.2.2.below hb6)))
    clear hb6 HS6 HB5 HT5
    have hS := same_ok false (d + 1) Any Any w6 tp tp n n HT6.out.1 HT6.out.1
    rw [E3.out] at hS
    have HS7 := Lib.hid hS
    clear hS
    go_wp2_with fail
    refine HS7.out.mono ?_
    rintro e7 w7 ⟨rfl, hb7⟩
    have HB7 := Lib.hid (below_on' HB6.out hb7)
    have HT7 := Lib.hid (And.intro (HT6.out.1.below hb7) (And.intro (HT6.out.2.1.below hb7) (HT6.out.2.2.below hb7)))
    clear hb7 HS7 HB6 HT6
    have hS := same_ok true (d + 1) Any Any w7 tp tp n n HT7.out.1 HT7.out.1
    rw [E4.out] at hS
    have HS8 := Lib.hid hS
    clear hS
    go_wp2_with fail
    refine HS8.out.mono ?_
    rintro e8 w8 ⟨rfl, hb8⟩
    have HB8 := Lib.hid (below_on' HB7.out hb8)
    have HT8 := Lib.hid (And.intro (HT7.out.1.below hb8) (And.intro (HT7.out.2.1.below hb8) (HT7.out.2.2.below hb8)))
    clear hb8 HS8 HB7 HT7
    have hS := same_ok false (d + 1) Any Any w8 tp ap n s HT8.out.1 HT8.out.2.1
    rw [E1.out] at hS
    have HS9 := Lib.hid hS
    clear hS
    go_wp2_with fail
    refine HS9.out.mono ?_
    rintro e9 w9 ⟨rfl, hb9⟩
    have HB9 := Lib.hid (below_on' HB8.out hb9)
    have HT9 := Lib.hid (And.intro (HT8.out.1.below hb9) (And.intro (HT8.out.2.1.below hb9) (HT8.out.2.2.below hb9)))
    clear hb9 HS9 HB8 HT8
    have hS := same_ok false (d + 1) Any Any w9 tp ap n s HT9.out.1 HT9.out.2.1
    rw [E1.out] at hS
    have HS10 := Lib.hid hS
    clear hS
    go_wp2_with fail
    refine HS10.out.mono ?_
    rintro e10 w10 ⟨rfl, hb10⟩
    have HB10 := Lib.hid (below_on' HB9.out hb10)
    have HT10 := Lib.hid (And.intro (HT9.out.1.below hb10) (And.intro (HT9.out.2.1.below hb10) (HT9.out.2.2.below hb10)))
    clear hb10 HS10 HB9 HT9
    have hS := same_ok true (d + 1) Any Any w10 tp ap n s HT10.out.1 HT10.out.2.1
    rw [E7.out] at hS
    have HS11 := Lib.hid hS
    clear hS
    go_wp2_with fail
    refine HS11.out.mono ?_
    rintro e11 w11 ⟨rfl, hb11⟩
    have HB11 := Lib.hid (below_on' HB10.out hb11)
    have HT11 := Lib.hid (And.intro (HT10.out.1.below hb11) (And.intro (HT10.out.2.1.below hb11) (HT10.out.2.2.below hb11)))
    clear hb11 HS11 HB10 HT10
    have hS := treeNode_of (d + 1) w11 ⟨tp, 0, none⟩ (n.named ⟨#[]⟩) (fun w2 hb => node_ok (d + 1) _ w2 tp n ⟨#[]⟩ (TreeAt.mono (G := fun b => b < w2.heap.size) (fun b _ hb2 => hb2) _ _ _ (HT11.out.1.below hb)) (fun b hb => hb) (by omega) (by show (0 : Nat) ≤ _; omega))
    have HS12 := Lib.hid hS
    clear hS
    go_wp2_with fail
    refine HS12.out.mono ?_
    rintro e12 w12 ⟨aq1, cq1, rfl, hnq1, hb12⟩
    have HB12 := Lib.hid (below_on' HB11.out hb12)
    have HT12 := Lib.hid (And.intro (HT11.out.1.below hb12) (And.intro (HT11.out.2.1.below hb12) (HT11.out.2.2.below hb12)))
    have Nq1 := Lib.hid hnq1
    clear hnq1
    clear hb12 HS12 HB11 HT11
    have hS := treeNode_of (d + 1) w12 ⟨ap, 0, none⟩ (s.named ⟨#[]⟩) (fun w2 hb => node_ok (d + 1) _ w2 ap s ⟨#[]⟩ (TreeAt.mono (G := fun b => b < w2.heap.size) (fun b _ hb2 => hb2) _ _ _ (HT12.out.2.1.below hb)) (fun b hb => hb) (by omega) (by show (0 : Nat) ≤ _; omega))
    have HS13 := Lib.hid hS
    clear hS
    go_wp2_with fail
    refine HS13.out.mono ?_
    rintro e13 w13 ⟨aq2, cq2, rfl, hnq2, hb13⟩
    have HB13 := Lib.hid (below_on' HB12.out hb13)
    have HT13 := Lib.hid (And.intro (HT12.out.1.below hb13) (And.intro (HT12.out.2.1.below hb13) (HT12.out.2.2.below hb13)))
    have Nq1x := Lib.hid (Nq1.out.below hb13)
    replace Nq1 := Nq1x
    clear Nq1x
    have Nq2 := Lib.hid hnq2
    clear hnq2
    clear hb13 HS13 HB12 HT12
    have hS := like_ok (d + 1) _ _ w13 (n.named ⟨#[]⟩) (s.named ⟨#[]⟩) aq1 cq1 aq2 cq2 Nq1.out Nq2.out
    rw [likeR_named, E7.out] at hS
    have HS14 := Lib.hid hS
    clear hS
    go_wp2_with fail
    refine HS14.out.mono ?_
    rintro e14 w14 ⟨rfl, hb14⟩
    have HB14 := Lib.hid (below_on' HB13.out hb14)
    have HT14 := Lib.hid (And.intro (HT13.out.1.below hb14) (And.intro (HT13.out.2.1.below hb14) (HT13.out.2.2.below hb14)))
    clear hb14 HS14 HB13 HT13
    clear Nq1 Nq2
    have hS := same_ok true (d + 1) Any Any w14 ap tp s n HT14.out.2.1 HT14.out.1
    rw [E8.out] at hS
    have HS15 := Lib.hid hS
    clear hS
    go_wp2_with fail
    refine HS15.out.mono ?_
    rintro e15 w15 ⟨rfl, hb15⟩
    have HB15 := Lib.hid (below_on' HB14.out hb15)
    have HT15 := Lib.hid (And.intro (HT14.out.1.below hb15) (And.intro (HT14.out.2.1.below hb15) (HT14.out.2.2.below hb15)))
    clear hb15 HS15 HB14 HT14
    have hS := treeNode_of (d + 1) w15 ⟨ap, 0, none⟩ (s.named ⟨#[]⟩) (fun w2 hb => node_ok (d + 1) _ w2 ap s ⟨#[]⟩ (TreeAt.mono (G := fun b => b < w2.heap.size) (fun b _ hb2 => hb2) _ _ _ (HT15.out.2.1.below hb)) (fun b hb => hb) (by omega) (by show (0 : Nat) ≤ _; omega))
    have HS16 := Lib.hid hS
    clear hS
    go_wp2_with fail
    refine HS16.out.mono ?_
    rintro e16 w16 ⟨aq3, cq3, rfl, hnq3, hb16⟩
    have HB16 := Lib.hid (below_on' HB15.out hb16)
    have HT16 := Lib.hid (And.intro (HT15.out.1.below hb16) (And.intro (HT15.out.2.1.below hb16) (HT15.out.2.2.below hb16)))
    have Nq3 := Lib.hid hnq3
    clear hnq3
    clear hb16 HS16 HB15 HT15
    have hS := treeNode_of (d + 1) w16 ⟨tp, 0, none⟩ (n.named ⟨#[]⟩) (fun w2 hb => node_ok (d + 1) _ w2 tp n ⟨#[]⟩ (TreeAt.mono (G := fun b => b < w2.heap.size) (fun b _ hb2 => hb2) _ _ _ (HT16.out.1.below hb)) (fun b hb => hb) (by omega) (by show (0 : Nat) ≤ _; omega))
    have HS17 := Lib.hid hS
    clear hS
    go_wp2_with fail
    refine HS17.out.mono ?_
    rintro e17 w17 ⟨aq4, cq4, rfl, hnq4, hb17⟩
    have HB17 := Lib.hid (below_on' HB16.out hb17)
    have HT17 := Lib.hid (And.intro (HT16.out.1.below hb17) (And.intro (HT16.out.2.1.below hb17) (HT16.out.2.2.below hb17)))
    have Nq3x := Lib.hid (Nq3.out.below hb17)
    replace Nq3 := Nq3x
    clear Nq3x
    have Nq4 := Lib.hid hnq4
    clear hnq4
    clear hb17 HS17 HB16 HT16
    have hS := like_ok (d + 1) _ _ w17 (s.named ⟨#[]⟩) (n.named ⟨#[]⟩) aq3 cq3 aq4 cq4 Nq3.out Nq4.out
    rw [likeR_named, E8.out] at hS
    have HS18 := Lib.hid hS
    clear hS
    go_wp2_with fail
    refine HS18.out.mono ?_
    rintro e18 w18 ⟨rfl, hb18⟩
    have HB18 := Lib.hid (below_on' HB17.out hb18)
    have HT18 := Lib.hid (And.intro (HT17.out.1.below hb18) (And.intro (HT17.out.2.1.below hb18) (HT17.out.2.2.below hb18)))
    clear hb18 HS18 HB17 HT17
    clear Nq3 Nq4
    have hS := treeNode_of (d + 1) w18 ⟨tp, 0, none⟩ (n.named ⟨#[]⟩) (fun w2 hb => node_ok (d + 1) _ w2 tp n ⟨#[]⟩ (TreeAt.mono (G := fun b => b < w2.heap.size) (fun b _ hb2 => hb2) _ _ _ (HT18.out.1.below hb)) (fun b hb => hb) (by omega) (by show (0 : Nat) ≤ _; omega))
    have HS19 := Lib.hid hS
    clear hS
    go_wp2_with fail
    refine HS19.out.mono ?_
    rintro e19 w19 ⟨aq5, cq5, rfl, hnq5, hb19⟩
    have HB19 := Lib.hid (below_on' HB18.out hb19)
    have HT19 := Lib.hid (And.intro (HT18.out.1.below hb19) (And.intro (HT18.out.2.1.below hb19) (HT18.out.2.2.below hb19)))
    have Nq5 := Lib.hid hnq5
    clear hnq5
    clear hb19 HS19 HB18 HT18
    have hS := unk_ok (d + 1) _ w19 (n.named ⟨#[]⟩) aq5 cq5 (NodeIn.mono (G := fun b => b < w19.heap.size) Nq5.out (fun b _ hl => hl)) (fun b hb => hb) (by have := named_le n; omega)
    rw [unkN_named] at hS
    have HS20 := Lib.hid hS
    clear hS
    go_wp2_with fail
    refine HS20.out.mono ?_
    rintro e20 w20 ⟨aq6, cq6, rfl, hnq6, hb20⟩
    have HB20 := Lib.hid (below_on' HB19.out hb20)
    have HT20 := Lib.hid (And.intro (HT19.out.1.below hb20) (And.intro (HT19.out.2.1.below hb20) (HT19.out.2.2.below hb20)))
    have Nq6 := Lib.hid hnq6
    clear hnq6
    clear hb20 HS20 HB19 HT19
    clear Nq5
    have hS := of_good w20 _ (d + 1) ((unkN n).named ⟨#[]⟩) aq6 cq6 (NodeIn.mono (G := fun b => b < w20.heap.size) Nq6.out (fun b _ hl => hl)) (fun b hb => hb) (by have h1 := named_le (unkN n); have h2 : (unkN n).parts = n.parts := mapN_parts _ _ n; omega) (by rw [chkErr_named]; exact unk_good n Hc1.out)
    have HS21 := Lib.hid hS
    clear hS
    go_wp2_with fail
    refine HS21.out.mono ?_
    rintro e21 w21 ⟨op, rfl, hto, hb21⟩
    have HB21 := Lib.hid (below_on' HB20.out hb21)
    have HT21 := Lib.hid (And.intro (HT20.out.1.below hb21).more (And.intro (HT20.out.2.1.below hb21).more (And.intro (HT20.out.2.2.below hb21).more hto.any)))
    clear hto
    clear hb21 HS21 HB20 HT20
    clear Nq6
    have hS := same_ok true (d + 1 + 1) Any Any w21 tp op n ((unkN n).named ⟨#[]⟩) HT21.out.1 HT21.out.2.2.2
    rw [E9.out] at hS
    have HS22 := Lib.hid hS
    clear hS
    go_wp2_with fail
    refine HS22.out.mono ?_
    rintro e22 w22 ⟨rfl, hb22⟩
    have HB22 := Lib.hid (below_on' HB21.out hb22)
    have HT22 := Lib.hid (And.intro (HT21.out.1.below hb22) (And.intro (HT21.out.2.1.below hb22) (And.intro (HT21.out.2.2.1.below hb22) (HT21.out.2.2.2.below hb22))))
    clear hb22 HS22 HB21 HT21
    have hS := same_ok false (d + 1 + 1) Any Any w22 ap tp s n HT22.out.2.1 HT22.out.1
    rw [E2.out] at hS
    have HS23 := Lib.hid hS
    clear hS
    go_wp2_with fail
    refine HS23.out.mono ?_
    rintro e23 w23 ⟨rfl, hb23⟩
    have HB23 := Lib.hid (below_on' HB22.out hb23)
    have HT23 := Lib.hid (And.intro (HT22.out.1.below hb23) (And.intro (HT22.out.2.1.below hb23) (And.intro (HT22.out.2.2.1.below hb23) (HT22.out.2.2.2.below hb23))))
    clear hb23 HS23 HB22 HT22
    have hS := same_ok true (d + 1 + 1) Any Any w23 tp ap n s HT23.out.1 HT23.out.2.1
    rw [E7.out] at hS
    have HS24 := Lib.hid hS
    clear hS
    go_wp2_with fail
    refine HS24.out.mono ?_
    rintro e24 w24 ⟨rfl, hb24⟩
    have HB24 := Lib.hid (below_on' HB23.out hb24)
    have HT24 := Lib.hid (And.intro (HT23.out.1.below hb24) (And.intro (HT23.out.2.1.below hb24) (And.intro (HT23.out.2.2.1.below hb24) (HT23.out.2.2.2.below hb24))))
    clear hb24 HS24 HB23 HT23
    cases o1 with
    | true =>
      obtain ⟨b3, hb3⟩ : ∃ b, b = sameO false s ((unkN n).named ⟨#[]⟩) := ⟨_, rfl⟩
      have E11 := Lib.hid hb3.symm
      clear hb3
      have hS := same_ok false (d + 1 + 1) Any Any w24 ap op s ((unkN n).named ⟨#[]⟩) HT24.out.2.1 HT24.out.2.2.2
      rw [E11.out] at hS
      have HS25 := Lib.hid hS
      clear hS
      go_wp2_with fail
      refine HS25.out.mono ?_
      rintro e25 w25 ⟨rfl, hb25⟩
      have HB25 := Lib.hid (below_on' HB24.out hb25)
      have HT25 := Lib.hid (And.intro (HT24.out.1.below hb25) (And.intro (HT24.out.2.1.below hb25) (And.intro (HT24.out.2.2.1.below hb25) (HT24.out.2.2.2.below hb25))))
      clear hb25 HS25 HB24 HT24
      cases b3 with
      | true =>
        have hS := same_ok true (d + 1 + 1) Any Any w25 tp op n ((unkN n).named ⟨#[]⟩) HT25.out.1 HT25.out.2.2.2
        rw [E9.out] at hS
        have HS26 := Lib.hid hS
        clear hS
        go_wp2_with fail
        refine HS26.out.mono ?_
        rintro e26 w26 ⟨rfl, hb26⟩
        have HB26 := Lib.hid (below_on' HB25.out hb26)
        have HT26 := Lib.hid (And.intro (HT25.out.1.below hb26) (And.intro (HT25.out.2.1.below hb26) (And.intro (HT25.out.2.2.1.below hb26) (HT25.out.2.2.2.below hb26))))
        clear hb26 HS26 HB25 HT25
        go_wp2
        go_ret
        exact ⟨rfl, HB26.out⟩
      | false =>
        go_wp2
        go_ret
        exact ⟨rfl, HB25.out⟩
    | false =>
      go_wp2
      go_ret
      exact ⟨rfl, HB24.out⟩
end Go.Proofs.Ythnbinlllmkabaa
