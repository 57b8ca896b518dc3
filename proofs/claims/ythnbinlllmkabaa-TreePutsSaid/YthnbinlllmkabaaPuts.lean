/- TreePuts, walked. (Written by gen_puts.py.) -/
import Derived.Test.YthnbinlllmkabaaReturns2
import Derived.Test.YthnbinlllmkabaaKnown
namespace Go.Proofs.Ythnbinlllmkabaa
open Go.RowKit Go.Shelf
set_option linter.unusedVariables false
set_option linter.unusedSimpArgs false

theorem below_on' {w a b : World} (h : Below w.heap.size w a) (k : Below a.heap.size a b) : Below w.heap.size w b := h.trans (k.mono h.size)
theorem pieces_ne {p : ByteArray} (h : p ≠ ⟨#[]⟩) : pieces p ≠ [] := by
  have h0 : p.size ≠ 0 := fun e => h (by cases p with | mk d => cases d with | mk l => cases l with | nil => rfl | cons x r => simp [ByteArray.size] at e)
  unfold pieces
  rw [if_neg h0]
  have key : ∀ n fr i, p.size - i = n → i ≤ p.size → cutAt p fr i ≠ [] := by
    intro n
    induction n with
    | zero =>
      intro fr i hn hi
      obtain rfl : i = p.size := by omega
      rw [cutAt_end]; simp
    | succ n ih =>
      intro fr i hn hi
      have hlt : i < p.size := by omega
      by_cases h47 : (p[i]'hlt).toNat = 47
      · rw [cutAt_hit p fr i hlt h47]; simp
      · rw [cutAt_miss p fr i hlt h47]; exact ih fr (i + 1) (by omega) (by omega)
  exact key _ _ _ rfl (Nat.zero_le _)
theorem subOf_parts : ∀ (l : List ByteArray) (n k : Nd), subOf n l = some k → k.parts ≤ n.parts
  | [], n, k, h => by injection h with h; subst h; exact Nat.le_refl _
  | t :: l, n, k, h => by
    rw [subOf_cons] at h
    cases hk : kidOf n.kids t with
    | none => rw [hk] at h; cases h
    | some c =>
      rw [hk, Option.bind_some] at h
      have ih := subOf_parts l c k h
      obtain ⟨hi, hcc⟩ := List.getElem?_eq_some_iff.1 (kidOf_some hk).1
      have h1 := partsAll_get (ks := n.kids) hi
      rw [hcc] at h1
      have := parts_eq n
      omega
/-- Put, however it ends. -/
theorem put_any (F : Nat → Prop) (d e : Nat) (w : World) (p q : Nat) (n x : Nd) (s : ByteArray) (ht : TreeAt w F d p n) (hx : TreeAt w F e q x) (hr : n.ris) (hc : n.cnt + x.cnt ≤ 1000000000) (hs : s.size ≤ 1000000000) :
    Calls Try.prog 35 #[.pointer (some ⟨p, 0, none⟩), .string s, .pointer (some ⟨q, 0, none⟩)] w fun e' w' => ∃ v, e' = .returned (.tuple #[v, .int .i64 (putErr n s x)]) ∧ (putErr n s x = 0 → ∃ p', v = .pointer (some ⟨p', 0, none⟩) ∧ ∃ dz, TreeAt w' Any dz p' (putOf n s x)) ∧ Below w.heap.size w w' := by
  by_cases h : putErr n s x = 0
  · refine (put_ok F d e w p q n x s ht hx hr hc hs h).mono ?_
    rintro e' w' ⟨p', rfl, h1, h2⟩
    exact ⟨_, by rw [h], fun _ => ⟨p', rfl, _, h1.any⟩, h2⟩
  · refine (put_bad F d e w p q n x s ht hx hr (by omega) (by omega) hs h).mono ?_
    rintro e' w' ⟨rfl, h2⟩
    exact ⟨_, rfl, fun h0 => absurd h0 h, h2⟩
set_option maxHeartbeats 20000000 in
set_option maxRecDepth 100000 in
theorem puts_law (d : Nat) (w : World) (n s r : Nd) (a1 a2 a3 : Option Addr) (c1 c2 c3 : Nat) (p q : ByteArray) (hn1 : NodeIn w (fun b => b < w.heap.size) d n a1) (hn2 : NodeIn w (fun b => b < w.heap.size) d s a2) (hn3 : NodeIn w (fun b => b < w.heap.size) d r a3) (hp : p.size ≤ 9223372036854775807) (hq : q.size ≤ 9223372036854775807) :
    Calls Try.prog 8 #[.agg (n.row a1 c1).toArray, .agg (s.row a2 c2).toArray, .agg (r.row a3 c3).toArray, .string p, .string q] w fun e w' => e = .returned (.bool true) ∧ Below w.heap.size w w' := by
  have Hn1 := Lib.hid hn1
  have Hn2 := Lib.hid hn2
  have Hn3 := Lib.hid hn3
  have l1 := Lib.hid (row_len (a := a1) (c := c1) hn1.vwf)
  have l2 := Lib.hid (row_len (a := a2) (c := c2) hn2.vwf)
  have l3 := Lib.hid (row_len (a := a3) (c := c3) hn3.vwf)
  have hA := alloc3 w (.cells (n.row a1 c1).toArray 30) (.cells (s.row a2 c2).toArray 30) (.cells (r.row a3 c3).toArray 30)
  have hb := on_alloc (on_alloc (on_alloc (Below.refl _ w) (.cells (n.row a1 c1).toArray 30)) (.cells (s.row a2 c2).toArray 30)) (.cells (r.row a3 c3).toArray 30)
  clear hn1 hn2 hn3
  go_enter Try.func8, Try.ntmps8
  go_wp2_with fail
  have hs3 : (((w.alloc (.cells (n.row a1 c1).toArray 30)).alloc (.cells (s.row a2 c2).toArray 30)).alloc (.cells (r.row a3 c3).toArray 30)).heap.size = w.heap.size + 3 := by simp
  obtain ⟨h1, h2, h3⟩ := hA
  generalize ((w.alloc (.cells (n.row a1 c1).toArray 30)).alloc (.cells (s.row a2 c2).toArray 30)).alloc (.cells (r.row a3 c3).toArray 30) = w3 at h1 h2 h3 hb hs3 ⊢
  have R1 := Lib.hid (rangeAt_row h1)
  have R2 := Lib.hid (rangeAt_row h2)
  have R3 := Lib.hid (rangeAt_row h3)
  have Hb := Lib.hid hb
  have Hs3 := Lib.hid hs3
  have Hkn := Lib.hid (known_ok w3)
  clear h1 h2 h3 hb hs3
  refine Hkn.out.mono ?_
  rintro e wk ⟨rfl, hbk⟩
  have hszk : w.heap.size + 3 ≤ wk.heap.size := by have := hbk.size; have := Hs3.out; omega
  have Hbk := Lib.hid (below_on Hb.out hbk)
  have hr1 := rangeAt_kept R1.out (Upd.below hbk fun _ => False) id
  have hr2 := rangeAt_kept R2.out (Upd.below hbk fun _ => False) id
  have hr3 := rangeAt_kept R3.out (Upd.below hbk fun _ => False) id
  have HKS : Hid (∀ w', Below wk.heap.size wk w' → Below wk.heap.size wk w' ∧ w'.rangeAt (w.heap.size) 0 (n.row a1 c1) ∧ w'.rangeAt (w.heap.size + 1) 0 (s.row a2 c2) ∧ w'.rangeAt (w.heap.size + 1 + 1) 0 (r.row a3 c3)) :=
    fun w' h => ⟨h, rangeAt_kept hr1 (Upd.below h fun _ => False) id, rangeAt_kept hr2 (Upd.below h fun _ => False) id, rangeAt_kept hr3 (Upd.below h fun _ => False) id⟩
  clear hr1 hr2 hr3 R1 R2 R3 hbk Hkn
  by_cases hp2 : 20000 < p.size
  · have z1 : (20000 : Int) < (p.size : Int) := by omega
    go_wp2
    go_ret
    exact ⟨rfl, Hbk.out⟩
  by_cases hq2 : 20000 < q.size
  · have z1 : ¬ (20000 : Int) < (p.size : Int) := by omega
    have z2 : (20000 : Int) < (q.size : Int) := by omega
    go_wp2
    go_ret
    exact ⟨rfl, Hbk.out⟩
  have z1 : ¬ (20000 : Int) < (p.size : Int) := by omega
  have z2 : ¬ (20000 : Int) < (q.size : Int) := by omega
  go_wp2_with fail
  have und30 := Try.underlying30
  have inf1 : (Try.prog.info? 30).map (·.size) = some (n.row a1 c1).length := by rw [l1.out]; kernel_rfl
  have inf2 : (Try.prog.info? 30).map (·.size) = some (s.row a2 c2).length := by rw [l2.out]; kernel_rfl
  have inf3 : (Try.prog.info? 30).map (·.size) = some (r.row a3 c3).length := by rw [l3.out]; kernel_rfl
  refine wp_region_noPanic ?_
  refine wp_region_held_drew (S := (fun w' => Below wk.heap.size wk w' ∧ w'.rangeAt (w.heap.size) 0 (n.row a1 c1) ∧ w'.rangeAt (w.heap.size + 1) 0 (s.row a2 c2) ∧ w'.rangeAt (w.heap.size + 1 + 1) 0 (r.row a3 c3))) (by kernel_rfl) ?_ (fun hHeld => ?_)
  · (try dsimp only); (first | assumption | exact HKS.out _ (on_drew (Below.refl _ _)) | exact HKS.out _ Hkn3.out | exact HKS.out _ Hkn2.out | exact HKS.out _ Hkn1.out)
  refine' wpAnyH_take (i := 0) (v := _) rfl (by kernel_rfl) (by kernel_rfl) (by kernel_rfl) (fun _ _ _ h => h) (yieldsIf_load_mid (by rfl) _ _ rfl _ _ rfl _ _ ?hS0 ?hu0 ?hd0 ?hi0) (by assumption) ?rest1
  case hS0 => (intro w hSw; (try dsimp only at hSw); go_split_ands; assumption)
  case hu0 => assumption
  case hd0 => rfl
  case hi0 => first | assumption | (simp only [*]; done)
  (try simp only [List.getElem_toArray, List.getElem_cons_succ, List.getElem_cons_zero, Act.put, List.setIfInBounds_toArray, List.set_cons_zero, List.set_cons_succ])
  refine' wpAnyH_take (i := 2) (v := _) rfl (by kernel_rfl) (by kernel_rfl) (by kernel_rfl) (fun _ _ _ h => h) (yieldsIf_load_mid (by rfl) _ _ rfl _ _ rfl _ _ ?hS2 ?hu2 ?hd2 ?hi2) (by assumption) ?rest2
  case hS2 => (intro w hSw; (try dsimp only at hSw); go_split_ands; assumption)
  case hu2 => assumption
  case hd2 => rfl
  case hi2 => first | assumption | (simp only [*]; done)
  (try simp only [List.getElem_toArray, List.getElem_cons_succ, List.getElem_cons_zero, Act.put, List.setIfInBounds_toArray, List.set_cons_zero, List.set_cons_succ])
  refine' wpAnyH_take (i := 4) (v := _) rfl (by kernel_rfl) (by kernel_rfl) (by kernel_rfl) (fun _ _ _ h => h) (yieldsIf_load_mid (by rfl) _ _ rfl _ _ rfl _ _ ?hS4 ?hu4 ?hd4 ?hi4) (by assumption) ?rest3
  case hS4 => (intro w hSw; (try dsimp only at hSw); go_split_ands; assumption)
  case hu4 => assumption
  case hd4 => rfl
  case hi4 => first | assumption | (simp only [*]; done)
  (try simp only [List.getElem_toArray, List.getElem_cons_succ, List.getElem_cons_zero, Act.put, List.setIfInBounds_toArray, List.set_cons_zero, List.set_cons_succ])
  refine wpAnyH_ready (rs := [1]) (by kernel_rfl) (by simp) ?_
  refine AllReadyH.cons rfl (fun K hK => ?_) ?_
  rotate_left
  · exact AllReadyH.nil
  go_simp
  refine (grown_any (fun b => b < w.heap.size) d wk.drew n a1 c1 ((Hn1.out.below Hbk.out).below (on_drew (Below.refl wk.heap.size wk))) (fun b hb => by have := hszk; have := ((on_drew (Below.refl wk.heap.size wk))).size; omega)).mono ?_; rintro e' wg1 ⟨v1, rfl, hv, hbn⟩; have HV1 := Lib.hid hv; have Hkn1 := Lib.hid (below_on (on_drew (Below.refl wk.heap.size wk)) hbn); clear hv hbn
  (try go_wp2_with fail)
  refine hK.out _ _ ?_ (fun hHeld => ?_)
  · (try dsimp only); (first | assumption | exact HKS.out _ (on_drew (Below.refl _ _)) | exact HKS.out _ Hkn3.out | exact HKS.out _ Hkn2.out | exact HKS.out _ Hkn1.out)
  clear hK K
  (try simp only [List.getElem_toArray, List.getElem_cons_succ, List.getElem_cons_zero, Act.put, List.setIfInBounds_toArray, List.set_cons_zero, List.set_cons_succ])
  refine wpAnyH_ready (rs := [3]) (by kernel_rfl) (by simp) ?_
  refine AllReadyH.cons rfl (fun K hK => ?_) ?_
  rotate_left
  · exact AllReadyH.nil
  go_simp
  refine (grown_any (fun b => b < w.heap.size) d wg1 s a2 c2 ((Hn2.out.below Hbk.out).below Hkn1.out) (fun b hb => by have := hszk; have := (Hkn1.out).size; omega)).mono ?_; rintro e' wg2 ⟨v2, rfl, hv, hbn⟩; have HV2 := Lib.hid hv; have Hkn2 := Lib.hid (below_on Hkn1.out hbn); replace HV1 := Lib.hid (HV1.out.below hbn); clear hv hbn
  (try go_wp2_with fail)
  refine hK.out _ _ ?_ (fun hHeld => ?_)
  · (try dsimp only); (first | assumption | exact HKS.out _ (on_drew (Below.refl _ _)) | exact HKS.out _ Hkn3.out | exact HKS.out _ Hkn2.out | exact HKS.out _ Hkn1.out)
  clear hK K
  (try simp only [List.getElem_toArray, List.getElem_cons_succ, List.getElem_cons_zero, Act.put, List.setIfInBounds_toArray, List.set_cons_zero, List.set_cons_succ])
  refine wpAnyH_ready (rs := [5]) (by kernel_rfl) (by simp) ?_
  refine AllReadyH.cons rfl (fun K hK => ?_) ?_
  rotate_left
  · exact AllReadyH.nil
  go_simp
  refine (grown_any (fun b => b < w.heap.size) d wg2 r a3 c3 ((Hn3.out.below Hbk.out).below Hkn2.out) (fun b hb => by have := hszk; have := (Hkn2.out).size; omega)).mono ?_; rintro e' wg3 ⟨v3, rfl, hv, hbn⟩; have HV3 := Lib.hid hv; have Hkn3 := Lib.hid (below_on Hkn2.out hbn); replace HV1 := Lib.hid (HV1.out.below hbn); replace HV2 := Lib.hid (HV2.out.below hbn); clear hv hbn
  (try go_wp2_with fail)
  refine hK.out _ _ ?_ (fun hHeld => ?_)
  · (try dsimp only); (first | assumption | exact HKS.out _ (on_drew (Below.refl _ _)) | exact HKS.out _ Hkn3.out | exact HKS.out _ Hkn2.out | exact HKS.out _ Hkn1.out)
  clear hK K
  (try simp only [List.getElem_toArray, List.getElem_cons_succ, List.getElem_cons_zero, Act.put, List.setIfInBounds_toArray, List.set_cons_zero, List.set_cons_succ])
  refine wpAnyH_take (i := 6) (v := ?_) rfl (by kernel_rfl) (by kernel_rfl) (by kernel_rfl) (fun _ _ _ h => h) (Or.inl ⟨by rfl, ?_⟩) (by assumption) ?_
  rotate_left
  · intro w hSw; (try dsimp only at hSw); go_simp; (try with_reducible rfl)
  (try simp only [List.getElem_toArray, List.getElem_cons_succ, List.getElem_cons_zero, Act.put, List.setIfInBounds_toArray, List.set_cons_zero, List.set_cons_succ])
  refine wpAnyH_take (i := 7) (v := ?_) rfl (by kernel_rfl) (by kernel_rfl) (by kernel_rfl) (fun _ _ _ h => h) (Or.inl ⟨by rfl, ?_⟩) (by assumption) ?_
  rotate_left
  · intro w hSw; (try dsimp only at hSw); go_simp; (try with_reducible rfl)
  (try simp only [List.getElem_toArray, List.getElem_cons_succ, List.getElem_cons_zero, Act.put, List.setIfInBounds_toArray, List.set_cons_zero, List.set_cons_succ])
  refine wpAnyH_take (i := 8) (v := ?_) rfl (by kernel_rfl) (by kernel_rfl) (by kernel_rfl) (fun _ _ _ h => h) (Or.inl ⟨by rfl, ?_⟩) (by assumption) ?_
  rotate_left
  · intro w hSw; (try dsimp only at hSw); go_simp; (try with_reducible rfl)
  (try simp only [List.getElem_toArray, List.getElem_cons_succ, List.getElem_cons_zero, Act.put, List.setIfInBounds_toArray, List.set_cons_zero, List.set_cons_succ])
  refine wpAnyH_done (by kernel_rfl) ?_ _
  refine NoPanic.normal ?_
  --TAIL
  have hkk := Lib.hid (Hbk.out.trans (Hkn3.out.mono (show w.heap.size ≤ wk.heap.size by omega)))
  have hv1 := HV1.out
  have hv2 := HV2.out
  have hv3 := HV3.out
  clear HV1 HV2 HV3 HKS Hkn1 Hkn2 Hkn3 inf1 inf2 inf3 und30 Hn1 Hn2 Hn3 l1 l2 l3
  rcases hv1 with rfl | ⟨tp, rfl, ht, hc1, hp1⟩
  · go_wp2
    go_ret
    exact ⟨rfl, hkk.out⟩
  rcases hv2 with rfl | ⟨ap, rfl, ha, hc2, hp3⟩
  · go_wp2
    go_ret
    exact ⟨rfl, hkk.out⟩
  rcases hv3 with rfl | ⟨bp, rfl, hbt, hc3, hp4⟩
  · go_wp2
    go_ret
    exact ⟨rfl, hkk.out⟩
  have Fn := Lib.hid (fine_chk hc1 hp1)
  have Fs := Lib.hid (fine_chk hc2 hp3)
  have Fr := Lib.hid (fine_chk hc3 hp4)
  have cn := cnt_le_parts n
  have cs := cnt_le_parts s
  have cr := cnt_le_parts r
  have Ht := Lib.hid (And.intro ht (And.intro ha hbt))
  have hps : p.size ≤ 1000000000 := by omega
  have hqs : q.size ≤ 1000000000 := by omega
  clear ht ha hbt hc1 hc2 hc3 hp hq
  by_cases h0 : putErr n p s = 0
  · obtain ⟨hsp, hway, hdep⟩ := putErr_ne.1 h0
    obtain ⟨X, hX⟩ : ∃ X, X = putOf n p s := ⟨_, rfl⟩
    have hwX : withOf n (pieces p) (some s) = some X := by rw [hX]; exact putOf_some n p s
    have fX0 := fine_with Fn.out hsp (fun x hx => by injection hx with hx; subst hx; exact ⟨Fs.out.ris, Fs.out.oks, hdep⟩) hwX
    have fX : Fine X 56320 := ⟨fX0.ris, fX0.oks, fX0.dep, by have := fX0.parts; have e : partsO (some s) = s.parts := rfl; omega⟩
    have cX := fX.cnt
    have pX := fX.parts
    obtain ⟨nm, hsub⟩ := sub_put _ n s X Fn.out.ris hway hwX
    have hpk := subOf_parts _ X _ hsub
    have hwayX : wayOf X (pieces p) = true := by
      by_cases hl : pieces p = []
      · rw [hl]; rfl
      · exact way_put _ n X (some s) hl Fn.out.ris hway (.inl rfl) hwX
    have hpe2 : putErr X p (s.named nm) = 0 := putErr_ne.2 ⟨hsp, hwayX, by rw [named_dep]; exact hdep⟩
    have hpo2 : putOf X p (s.named nm) = X := by
      have h := putOf_some X p (s.named nm)
      rw [put_same _ X _ fX.ris hsub] at h
      injection h with h
      exact h.symm
    have hlaw1 : ∀ x ∈ allOf n ⟨#[]⟩, underB x.1 p = true ∨ ∃ k, subAt X x.1 = some k ∧ k.v = x.2.1 := fun x hx => by
      obtain ⟨hs1, k, hk, hv⟩ := spot_at Fn.out.ris Fn.out.oks Fn.out.dep hx
      by_cases hpre : pieces p <+: pieces x.1
      · exact .inl ((underB_iff _ _).2 hpre)
      · right
        have ho := sub_other _ _ n X (some s) Fn.out.ris hway (.inl rfl) hwX hpre
        rw [hk] at ho
        rw [subAt_of hs1]
        cases hk2 : subOf X (pieces x.1) with
        | none => rw [hk2] at ho; cases ho
        | some k2 => rw [hk2] at ho; injection ho with ho; exact ⟨k2, rfl, ho.trans hv⟩
    have hlaw2 : ∀ x ∈ allOf X ⟨#[]⟩, underB x.1 p = true ∨ ∃ k, subAt n x.1 = some k ∧ k.v = x.2.1 := fun x hx => by
      obtain ⟨hs1, k, hk, hv⟩ := spot_at fX.ris fX.oks fX.dep hx
      by_cases hpre : pieces p <+: pieces x.1
      · exact .inl ((underB_iff _ _).2 hpre)
      · right
        have ho := sub_other _ _ n X (some s) Fn.out.ris hway (.inl rfl) hwX hpre
        rw [hk] at ho
        rw [subAt_of hs1]
        cases hk2 : subOf n (pieces x.1) with
        | none => rw [hk2] at ho; cases ho
        | some k2 => rw [hk2] at ho; injection ho with ho; exact ⟨k2, rfl, ho.symm.trans hv⟩
    have hput := put_ok Any (d + 1) (d + 1) wg3 tp ap n s p Ht.out.1 Ht.out.2.1 Fn.out.ris (by omega) hps h0
    rw [← hX] at hput
    have Hput := Lib.hid hput
    have HX := Lib.hid (And.intro hwX (And.intro fX (And.intro hsub (And.intro hpe2 hpo2))))
    have HP := Lib.hid (And.intro h0 (And.intro hsp (And.intro hway hdep)))
    have HL := Lib.hid (And.intro hlaw1 hlaw2)
    clear hwX fX0 fX hsub hwayX hpe2 hpo2 hlaw1 hlaw2 hput hX h0 hsp hway hdep
    go_wp2_with fail
    refine Hput.out.mono ?_
    rintro e1 w1 ⟨xp, rfl, htx, hb1⟩
    have Hb1 := Lib.hid (hkk.out.trans (hb1.mono (show w.heap.size ≤ wg3.heap.size from hkk.out.size)))
    have Ht1 := Lib.hid (And.intro (Ht.out.1.below hb1) (And.intro (Ht.out.2.1.below hb1) (Ht.out.2.2.below hb1)))
    have Hx1 := Lib.hid htx.any
    have Hsub := Lib.hid (sub_any Any _ w1 xp X p Hx1.out HX.out.2.1.ris (by omega) hps HP.out.2.1)
    clear htx hb1 Hput Ht hkk
    go_wp2_with fail
    refine Hsub.out.mono ?_
    rintro e2 w2 ⟨hcase, hb2⟩
    rcases hcase with ⟨h, _⟩ | ⟨k, kp, hk, rfl, htk, hrk, hck⟩
    · rw [HX.out.2.2.1] at h; cases h
    have hkk2 : k = s.named nm := by rw [HX.out.2.2.1] at hk; injection hk with hk; exact hk.symm
    subst hkk2
    have Hb2 := Lib.hid (below_on' Hb1.out hb2)
    have Ht2 := Lib.hid (And.intro (Ht1.out.1.below hb2) (And.intro (Ht1.out.2.1.below hb2) (Ht1.out.2.2.below hb2)))
    have Hx2 := Lib.hid (Hx1.out.below hb2)
    have Hk2 := Lib.hid htk
    have heq := equal_any Any Any _ _ w2 kp ap (s.named nm) s Hk2.out Ht2.out.2.1 (by omega) (by omega)
    rw [show (s.named nm).alike s = true by have h := alike_names s s nm s.name; rw [named_self, alike_refl] at h; exact h] at heq
    have Heq := Lib.hid heq
    clear hb2 htk hk heq Hsub Hb1 Ht1 Hx1
    go_wp2_with fail
    refine Heq.out.mono ?_
    rintro e3 w4 ⟨rfl, hb4⟩
    have Hb4 := Lib.hid (below_on' Hb2.out hb4)
    have Ht4 := Lib.hid (And.intro (Ht2.out.1.below hb4) (And.intro (Ht2.out.2.1.below hb4) (Ht2.out.2.2.below hb4)))
    have Hx4 := Lib.hid (Hx2.out.below hb4)
    have Hk4 := Lib.hid (Hk2.out.below hb4)
    have Hel1 := Lib.hid (elsewhere_any Any Any _ _ w4 tp xp n X p Ht4.out.1 Hx4.out (by omega) HX.out.2.1.ris (by omega) hps HL.out.1)
    clear hb4 Heq Hb2 Ht2 Hx2 Hk2
    go_wp2_with fail
    refine Hel1.out.mono ?_
    rintro e5 w5 ⟨rfl, hb5⟩
    have Hb5 := Lib.hid (below_on' Hb4.out hb5)
    have Ht5 := Lib.hid (And.intro (Ht4.out.1.below hb5) (And.intro (Ht4.out.2.1.below hb5) (Ht4.out.2.2.below hb5)))
    have Hx5 := Lib.hid (Hx4.out.below hb5)
    have Hk5 := Lib.hid (Hk4.out.below hb5)
    have Hel2 := Lib.hid (elsewhere_any Any Any _ _ w5 xp tp X n p Hx5.out Ht5.out.1 (by omega) Fn.out.ris (by omega) hps HL.out.2)
    clear hb5 Hel1 Hb4 Ht4 Hx4 Hk4
    go_wp2_with fail
    refine Hel2.out.mono ?_
    rintro e6 w6 ⟨rfl, hb6⟩
    have Hb6 := Lib.hid (below_on' Hb5.out hb6)
    have Ht6 := Lib.hid (And.intro (Ht5.out.1.below hb6) (And.intro (Ht5.out.2.1.below hb6) (Ht5.out.2.2.below hb6)))
    have Hx6 := Lib.hid (Hx5.out.below hb6)
    have Hk6 := Lib.hid (Hk5.out.below hb6)
    have hput2 := put_ok Any _ _ w6 xp kp X (s.named nm) p Hx6.out Hk6.out HX.out.2.1.ris (by rw [named_cnt]; omega) hps HX.out.2.2.2.1
    rw [HX.out.2.2.2.2] at hput2
    have Hput2 := Lib.hid hput2
    clear hb6 hput2 Hel2 Hb5 Ht5 Hx5 Hk5
    go_wp2_with fail
    refine Hput2.out.mono ?_
    rintro e7 w7 ⟨yp, rfl, hty, hb7⟩
    have Hb7 := Lib.hid (below_on' Hb6.out hb7)
    have Ht7 := Lib.hid (And.intro (Ht6.out.1.below hb7) (And.intro (Ht6.out.2.1.below hb7) (Ht6.out.2.2.below hb7)))
    have Hx7 := Lib.hid (Hx6.out.below hb7)
    have heq2 := equal_any Any Any _ _ w7 xp yp X X Hx7.out hty.any (by omega) (by omega)
    rw [alike_refl] at heq2
    have Heq2 := Lib.hid heq2
    clear hb7 hty heq2 Hput2 Hb6 Ht6 Hx6 Hk6
    go_wp2_with fail
    refine Heq2.out.mono ?_
    rintro e8 w8 ⟨rfl, hb8⟩
    have Hb8 := Lib.hid (below_on' Hb7.out hb8)
    have Ht8 := Lib.hid (And.intro (Ht7.out.1.below hb8) (And.intro (Ht7.out.2.1.below hb8) (Ht7.out.2.2.below hb8)))
    have Hx8 := Lib.hid (Hx7.out.below hb8)
    clear hb8 Heq2 Hb7 Ht7 Hx7
    -- BEHIND returns
    have hback : Hid (∀ w9, Below w8.heap.size w8 w9 → ∀ R : Act → Prop, True) := fun _ _ _ => trivial
    clear hback
    by_cases hpz : p = ⟨#[]⟩
    · have ep : (p.toList == ([] : List UInt8)) = true := by rw [hpz, show (⟨#[]⟩ : ByteArray).toList = [] from toList_mk []]; rfl
      have ep2 : (p.toList != ([] : List UInt8)) = false := by rw [bne, ep]; rfl
      clear hpz
      go_wp2_with fail
      refine (put_any Any _ _ w8 xp bp X r q Hx8.out Ht8.out.2.2 HX.out.2.1.ris (by omega) hqs).mono ?_
      rintro f1 u1 ⟨zv, rfl, hzv, hb10⟩
      have Hb10 := Lib.hid (below_on' Hb8.out hb10)
      have Ht10 := Lib.hid (And.intro (Ht8.out.1.below hb10) (And.intro (Ht8.out.2.1.below hb10) (Ht8.out.2.2.below hb10)))
      have Hzv := Lib.hid hzv
      clear hb10 hzv Hb8 Ht8 Hx8
      go_wp2_with fail
      refine (put_any Any _ _ u1 tp bp n r q Ht10.out.1 Ht10.out.2.2 Fn.out.ris (by omega) hqs).mono ?_
      rintro f2 u2 ⟨wv, rfl, hwv, hb11⟩
      have Hb11 := Lib.hid (below_on' Hb10.out hb11)
      have Ha11 := Lib.hid (Ht10.out.2.1.below hb11)
      have Hzv := Lib.hid (show putErr X q r = 0 → ∃ p', zv = .pointer (some ⟨p', 0, none⟩) ∧ ∃ dz, TreeAt u2 Any dz p' (putOf X q r) from fun h => by obtain ⟨p', h1, dz, h2⟩ := Hzv.out h; exact ⟨p', h1, dz, h2.below hb11⟩)
      have Hwv := Lib.hid hwv
      obtain ⟨zg, hzg⟩ : ∃ z, z = putErr X q r := ⟨_, rfl⟩
      obtain ⟨zh, hzh⟩ : ∃ z, z = putErr n q r := ⟨_, rfl⟩
      rw [← hzg] at Hzv
      rw [← hzh] at Hwv
      rw [← hzg, ← hzh]
      have Hzg := Lib.hid (And.intro hzg hzh)
      obtain ⟨b1, hb1e⟩ : ∃ b, b = underB p q := ⟨_, rfl⟩
      obtain ⟨b2, hb2e⟩ : ∃ b, b = underB q p := ⟨_, rfl⟩
      have hu1 := under_any u2 p q hps hqs
      rw [← hb1e] at hu1
      have Hu1 := Lib.hid hu1
      have Hbe := Lib.hid (And.intro hb1e hb2e)
      clear hb11 hwv Hb10 Ht10 hzg hzh hb1e hb2e hu1
      go_wp2_with fail
      refine Hu1.out.mono ?_
      rintro f3 u3 ⟨rfl, hb12⟩
      have Hb12 := Lib.hid (below_on' Hb11.out hb12)
      have Ha12 := Lib.hid (Ha11.out.below hb12)
      have Hz12 := Lib.hid (show zg = 0 → ∃ p', zv = .pointer (some ⟨p', 0, none⟩) ∧ ∃ dz, TreeAt u3 Any dz p' (putOf X q r) from fun h => by obtain ⟨p', h1, dz, h2⟩ := Hzv.out h; exact ⟨p', h1, dz, h2.below hb12⟩)
      have Hw12 := Lib.hid (show zh = 0 → ∃ p', wv = .pointer (some ⟨p', 0, none⟩) ∧ ∃ dz, TreeAt u3 Any dz p' (putOf n q r) from fun h => by obtain ⟨p', h1, dz, h2⟩ := Hwv.out h; exact ⟨p', h1, dz, h2.below hb12⟩)
      clear hb12 Hu1 Hb11 Ha11 Hzv Hwv
      cases b1 with
      | true =>
        go_wp2
        go_ret
        exact ⟨rfl, Hb12.out⟩
      | false =>
        have hu2 := under_any u3 q p hqs hps
        rw [← Hbe.out.2] at hu2
        have Hu2 := Lib.hid hu2
        clear hu2
        go_wp2_with fail
        refine Hu2.out.mono ?_
        rintro f4 u4 ⟨rfl, hb13⟩
        have Hb13 := Lib.hid (below_on' Hb12.out hb13)
        have Ha13 := Lib.hid (Ha12.out.below hb13)
        have Hz13 := Lib.hid (show zg = 0 → ∃ p', zv = .pointer (some ⟨p', 0, none⟩) ∧ ∃ dz, TreeAt u4 Any dz p' (putOf X q r) from fun h => by obtain ⟨p', h1, dz, h2⟩ := Hz12.out h; exact ⟨p', h1, dz, h2.below hb13⟩)
        have Hw13 := Lib.hid (show zh = 0 → ∃ p', wv = .pointer (some ⟨p', 0, none⟩) ∧ ∃ dz, TreeAt u4 Any dz p' (putOf n q r) from fun h => by obtain ⟨p', h1, dz, h2⟩ := Hw12.out h; exact ⟨p', h1, dz, h2.below hb13⟩)
        clear hb13 Hu2 Hb12 Ha12 Hz12 Hw12
        cases b2 with
        | true =>
          go_wp2
          go_ret
          exact ⟨rfl, Hb13.out⟩
        | false =>
          by_cases hg : zg = 0
          · by_cases hh : zh = 0
            · obtain ⟨zp, rfl, dz, htz⟩ := Hz13.out hg
              obtain ⟨wp, rfl, dw, htw⟩ := Hw13.out hh
              subst hg hh
              have hg1 := putErr_ne.1 Hzg.out.1.symm
              have hh1 := putErr_ne.1 Hzg.out.2.symm
              have np : ¬ pieces p <+: pieces q := fun h => by have := (underB_iff q p).2 h; rw [← Hbe.out.2] at this; cases this
              have nq2 : ¬ pieces q <+: pieces p := fun h => by have := (underB_iff p q).2 h; rw [← Hbe.out.1] at this; cases this
              obtain ⟨hcm, hwy⟩ := put_comm _ _ n s r X (putOf n q r) Fn.out.ris HP.out.2.2.1 hh1.2.1 np nq2 HX.out.1 (putOf_some n q r)
              have hpe3 : putErr (putOf n q r) p s = 0 := putErr_ne.2 ⟨HP.out.2.1, hwy, HP.out.2.2.2⟩
              have fW0 := fine_with Fn.out hh1.1 (fun x hx => by injection hx with hx; subst hx; exact ⟨Fr.out.ris, Fr.out.oks, hh1.2.2⟩) (putOf_some n q r)
              have er : partsO (some r) = r.parts := rfl
              have cW := fW0.cnt
              have pr := Fr.out.parts
              have hput3 := put_ok Any _ _ u4 wp ap (putOf n q r) s p htw Ha13.out fW0.ris (by omega) hps hpe3
              have hsame : putOf (putOf n q r) p s = putOf X q r := by
                have h1 := putOf_some X q r
                have h2 := putOf_some (putOf n q r) p s
                rw [hcm, h2] at h1
                injection h1
              rw [hsame] at hput3
              have Hput3 := Lib.hid hput3
              have Htz := Lib.hid htz
              have fZ0 := fine_with HX.out.2.1 hg1.1 (fun x hx => by injection hx with hx; subst hx; exact ⟨Fr.out.ris, Fr.out.oks, hg1.2.2⟩) (putOf_some X q r)
              have pZ := fZ0.parts
              clear hcm hwy hpe3 fW0 hput3 hsame htz htw np nq2 hg1 hh1 Hz13 Hw13 fZ0
              go_wp2_with fail
              refine Hput3.out.mono ?_
              rintro f5 u5 ⟨vp, rfl, htv, hb14⟩
              have Hb14 := Lib.hid (below_on' Hb13.out hb14)
              have heq3 := equal_any Any Any _ _ u5 zp vp (putOf X q r) (putOf X q r) (Htz.out.below hb14) htv.any (by omega) (by omega)
              rw [alike_refl] at heq3
              have Heq3 := Lib.hid heq3
              clear hb14 htv heq3 Hput3
              go_wp2_with fail
              refine Heq3.out.mono ?_
              rintro f6 u6 ⟨rfl, hb15⟩
              have Hb15 := Lib.hid (below_on' Hb14.out hb15)
              clear hb15
              go_wp2
              go_ret
              exact ⟨rfl, Hb15.out⟩
            · have hz0 : (zh != 0) = true := by rw [bne_iff_ne]; exact hh
              have hz1 : (zg != 0) = false := by rw [hg]; rfl
              clear hh hg
              go_wp2
              go_ret
              exact ⟨rfl, Hb13.out⟩
          · have hz0 : (zg != 0) = true := by rw [bne_iff_ne]; exact hg
            clear hg
            go_wp2
            go_ret
            exact ⟨rfl, Hb13.out⟩
    · have ep : (p.toList == ([] : List UInt8)) = false := by
        rw [beq_eq_false_iff_ne]
        intro e
        refine hpz (toList_inj ?_)
        rw [e]
        exact (toList_mk []).symm
      have ep2 : (p.toList != ([] : List UInt8)) = true := by rw [bne, ep]; rfl
      have hpn : pieces p ≠ [] := pieces_ne hpz
      have Hret := Lib.hid (returns_any _ _ w8 tp xp n X p 56320 (by omega) (back_of Fn.out (by omega) HX.out.2.1 HP.out.1 hpn HX.out.1) Ht8.out.1 Hx8.out hps)
      clear hpz hpn
      go_wp2_with fail
      refine Hret.out.mono ?_
      rintro e9 w9 ⟨rfl, hb9⟩
      have Hb8 := Lib.hid (below_on' Hb8.out hb9)
      have Ht8 := Lib.hid (And.intro (Ht8.out.1.below hb9) (And.intro (Ht8.out.2.1.below hb9) (Ht8.out.2.2.below hb9)))
      have Hx8 := Lib.hid (Hx8.out.below hb9)
      clear hb9 Hret
      go_wp2_with fail
      refine (put_any Any _ _ w9 xp bp X r q Hx8.out Ht8.out.2.2 HX.out.2.1.ris (by omega) hqs).mono ?_
      rintro f1 u1 ⟨zv, rfl, hzv, hb10⟩
      have Hb10 := Lib.hid (below_on' Hb8.out hb10)
      have Ht10 := Lib.hid (And.intro (Ht8.out.1.below hb10) (And.intro (Ht8.out.2.1.below hb10) (Ht8.out.2.2.below hb10)))
      have Hzv := Lib.hid hzv
      clear hb10 hzv Hb8 Ht8 Hx8
      go_wp2_with fail
      refine (put_any Any _ _ u1 tp bp n r q Ht10.out.1 Ht10.out.2.2 Fn.out.ris (by omega) hqs).mono ?_
      rintro f2 u2 ⟨wv, rfl, hwv, hb11⟩
      have Hb11 := Lib.hid (below_on' Hb10.out hb11)
      have Ha11 := Lib.hid (Ht10.out.2.1.below hb11)
      have Hzv := Lib.hid (show putErr X q r = 0 → ∃ p', zv = .pointer (some ⟨p', 0, none⟩) ∧ ∃ dz, TreeAt u2 Any dz p' (putOf X q r) from fun h => by obtain ⟨p', h1, dz, h2⟩ := Hzv.out h; exact ⟨p', h1, dz, h2.below hb11⟩)
      have Hwv := Lib.hid hwv
      obtain ⟨zg, hzg⟩ : ∃ z, z = putErr X q r := ⟨_, rfl⟩
      obtain ⟨zh, hzh⟩ : ∃ z, z = putErr n q r := ⟨_, rfl⟩
      rw [← hzg] at Hzv
      rw [← hzh] at Hwv
      rw [← hzg, ← hzh]
      have Hzg := Lib.hid (And.intro hzg hzh)
      obtain ⟨b1, hb1e⟩ : ∃ b, b = underB p q := ⟨_, rfl⟩
      obtain ⟨b2, hb2e⟩ : ∃ b, b = underB q p := ⟨_, rfl⟩
      have hu1 := under_any u2 p q hps hqs
      rw [← hb1e] at hu1
      have Hu1 := Lib.hid hu1
      have Hbe := Lib.hid (And.intro hb1e hb2e)
      clear hb11 hwv Hb10 Ht10 hzg hzh hb1e hb2e hu1
      go_wp2_with fail
      refine Hu1.out.mono ?_
      rintro f3 u3 ⟨rfl, hb12⟩
      have Hb12 := Lib.hid (below_on' Hb11.out hb12)
      have Ha12 := Lib.hid (Ha11.out.below hb12)
      have Hz12 := Lib.hid (show zg = 0 → ∃ p', zv = .pointer (some ⟨p', 0, none⟩) ∧ ∃ dz, TreeAt u3 Any dz p' (putOf X q r) from fun h => by obtain ⟨p', h1, dz, h2⟩ := Hzv.out h; exact ⟨p', h1, dz, h2.below hb12⟩)
      have Hw12 := Lib.hid (show zh = 0 → ∃ p', wv = .pointer (some ⟨p', 0, none⟩) ∧ ∃ dz, TreeAt u3 Any dz p' (putOf n q r) from fun h => by obtain ⟨p', h1, dz, h2⟩ := Hwv.out h; exact ⟨p', h1, dz, h2.below hb12⟩)
      clear hb12 Hu1 Hb11 Ha11 Hzv Hwv
      cases b1 with
      | true =>
        go_wp2
        go_ret
        exact ⟨rfl, Hb12.out⟩
      | false =>
        have hu2 := under_any u3 q p hqs hps
        rw [← Hbe.out.2] at hu2
        have Hu2 := Lib.hid hu2
        clear hu2
        go_wp2_with fail
        refine Hu2.out.mono ?_
        rintro f4 u4 ⟨rfl, hb13⟩
        have Hb13 := Lib.hid (below_on' Hb12.out hb13)
        have Ha13 := Lib.hid (Ha12.out.below hb13)
        have Hz13 := Lib.hid (show zg = 0 → ∃ p', zv = .pointer (some ⟨p', 0, none⟩) ∧ ∃ dz, TreeAt u4 Any dz p' (putOf X q r) from fun h => by obtain ⟨p', h1, dz, h2⟩ := Hz12.out h; exact ⟨p', h1, dz, h2.below hb13⟩)
        have Hw13 := Lib.hid (show zh = 0 → ∃ p', wv = .pointer (some ⟨p', 0, none⟩) ∧ ∃ dz, TreeAt u4 Any dz p' (putOf n q r) from fun h => by obtain ⟨p', h1, dz, h2⟩ := Hw12.out h; exact ⟨p', h1, dz, h2.below hb13⟩)
        clear hb13 Hu2 Hb12 Ha12 Hz12 Hw12
        cases b2 with
        | true =>
          go_wp2
          go_ret
          exact ⟨rfl, Hb13.out⟩
        | false =>
          by_cases hg : zg = 0
          · by_cases hh : zh = 0
            · obtain ⟨zp, rfl, dz, htz⟩ := Hz13.out hg
              obtain ⟨wp, rfl, dw, htw⟩ := Hw13.out hh
              subst hg hh
              have hg1 := putErr_ne.1 Hzg.out.1.symm
              have hh1 := putErr_ne.1 Hzg.out.2.symm
              have np : ¬ pieces p <+: pieces q := fun h => by have := (underB_iff q p).2 h; rw [← Hbe.out.2] at this; cases this
              have nq2 : ¬ pieces q <+: pieces p := fun h => by have := (underB_iff p q).2 h; rw [← Hbe.out.1] at this; cases this
              obtain ⟨hcm, hwy⟩ := put_comm _ _ n s r X (putOf n q r) Fn.out.ris HP.out.2.2.1 hh1.2.1 np nq2 HX.out.1 (putOf_some n q r)
              have hpe3 : putErr (putOf n q r) p s = 0 := putErr_ne.2 ⟨HP.out.2.1, hwy, HP.out.2.2.2⟩
              have fW0 := fine_with Fn.out hh1.1 (fun x hx => by injection hx with hx; subst hx; exact ⟨Fr.out.ris, Fr.out.oks, hh1.2.2⟩) (putOf_some n q r)
              have er : partsO (some r) = r.parts := rfl
              have cW := fW0.cnt
              have pr := Fr.out.parts
              have hput3 := put_ok Any _ _ u4 wp ap (putOf n q r) s p htw Ha13.out fW0.ris (by omega) hps hpe3
              have hsame : putOf (putOf n q r) p s = putOf X q r := by
                have h1 := putOf_some X q r
                have h2 := putOf_some (putOf n q r) p s
                rw [hcm, h2] at h1
                injection h1
              rw [hsame] at hput3
              have Hput3 := Lib.hid hput3
              have Htz := Lib.hid htz
              have fZ0 := fine_with HX.out.2.1 hg1.1 (fun x hx => by injection hx with hx; subst hx; exact ⟨Fr.out.ris, Fr.out.oks, hg1.2.2⟩) (putOf_some X q r)
              have pZ := fZ0.parts
              clear hcm hwy hpe3 fW0 hput3 hsame htz htw np nq2 hg1 hh1 Hz13 Hw13 fZ0
              go_wp2_with fail
              refine Hput3.out.mono ?_
              rintro f5 u5 ⟨vp, rfl, htv, hb14⟩
              have Hb14 := Lib.hid (below_on' Hb13.out hb14)
              have heq3 := equal_any Any Any _ _ u5 zp vp (putOf X q r) (putOf X q r) (Htz.out.below hb14) htv.any (by omega) (by omega)
              rw [alike_refl] at heq3
              have Heq3 := Lib.hid heq3
              clear hb14 htv heq3 Hput3
              go_wp2_with fail
              refine Heq3.out.mono ?_
              rintro f6 u6 ⟨rfl, hb15⟩
              have Hb15 := Lib.hid (below_on' Hb14.out hb15)
              clear hb15
              go_wp2
              go_ret
              exact ⟨rfl, Hb15.out⟩
            · have hz0 : (zh != 0) = true := by rw [bne_iff_ne]; exact hh
              have hz1 : (zg != 0) = false := by rw [hg]; rfl
              clear hh hg
              go_wp2
              go_ret
              exact ⟨rfl, Hb13.out⟩
          · have hz0 : (zg != 0) = true := by rw [bne_iff_ne]; exact hg
            clear hg
            go_wp2
            go_ret
            exact ⟨rfl, Hb13.out⟩
  · have hbad := put_bad Any (d + 1) (d + 1) wg3 tp ap n s p Ht.out.1 Ht.out.2.1 Fn.out.ris (by omega) (by omega) hps h0
    obtain ⟨z, hz⟩ : ∃ z, z = putErr n p s := ⟨_, rfl⟩
    rw [← hz] at hbad h0
    have Hbad := Lib.hid hbad
    have hz0 : (z != 0) = true := by rw [bne_iff_ne]; exact h0
    clear hbad hz h0
    go_wp2_with fail
    refine Hbad.out.mono ?_
    rintro e1 w1 ⟨rfl, hb1⟩
    have Hb1 := Lib.hid (hkk.out.trans (hb1.mono (show w.heap.size ≤ wg3.heap.size from hkk.out.size)))
    clear hb1 Hbad
    go_wp2
    go_ret
    exact ⟨rfl, Hb1.out⟩
end Go.Proofs.Ythnbinlllmkabaa
