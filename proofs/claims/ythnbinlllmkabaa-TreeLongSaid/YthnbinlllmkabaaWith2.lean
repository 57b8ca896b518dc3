/- A tree's with, walked. -/
import Derived.Test.YthnbinlllmkabaaWith
namespace Go.Proofs.Ythnbinlllmkabaa
open Go.RowKit
set_option linter.unusedVariables false
set_option linter.unusedSimpArgs false

/-- The state behind the two clones. -/
structure Cloned (w w2 : World) (ns : List ByteArray) (ps : List Nat) (m : Nat) (a5 a6 : Option Addr) (c5 c6 : Nat) : Prop where
  names : Own w2 9 1 (.slice a5 m c5) m (strs ns)
  kids : Own w2 55 1 (.slice a6 m c6) m (ptrs ps)
  low : Below w.heap.size w w2
  n1 : ∀ b, (Value.slice a5 m c5).ownBlock = some b → w.heap.size ≤ b
  k1 : ∀ b, (Value.slice a6 m c6).ownBlock = some b → w.heap.size ≤ b
set_option maxHeartbeats 20000000 in
set_option maxRecDepth 100000 in
theorem with_step (d : Nat) (ih : WithOk d) : WithOk (d + 1) := by
  intro F w p n L a nl c s e ht hr hsl hnl hnc hc63 hLs hs hs0 hcnt
  cases L with
  | nil =>
    have h0 : nl = 0 := by rw [← hnl]; rfl
    subst h0
    exact with_nil (d + 1) F w p n a c s e hs
  | cons t l =>
    obtain ⟨h1, hv, hmw, an, ak, cn, ck, ps, hrow, hsn, hsk, hFn, hFk, hpl, hcn, hck, hkids⟩ := ht
    obtain ⟨m, hm⟩ : ∃ m, m = n.kids.length := ⟨_, rfl⟩
    have hml : m ≤ 1000000000 := by have := len_le_cnt n.kids; have := cnt_eq n; omega
    rw [← hm] at hrow hsn hsk
    have tro := trow_at (o := 0) hv (rangeAt_row hrow)
    simp only [Nat.zero_add] at tro
    have c39 := tro.2.2.1
    have c40 := tro.2.2.2.1
    obtain ⟨g, off, rfl, hgw, hcc⟩ := hsl.open_ (by simp [strs])
    have f0 := hcc 0 (.string t) rfl
    simp only [Nat.add_zero] at f0
    obtain ⟨nm, rfl⟩ : ∃ nm, nl = nm + 1 := ⟨l.length, by rw [← hnl]; rfl⟩
    have Hnm := Lib.hid (show l.length = nm by simpa using hnl)
    have hpw : p < w.heap.size := lt_heap hrow
    have Hsl := Lib.hid hsl
    have Hrow := Lib.hid hrow
    have HT := Lib.hid (show TreesAt w F d ps n.kids from ⟨hpl, hkids⟩)
    have Hm := Lib.hid hm
    have Hs := Lib.hid hs
    have Hs0 := Lib.hid hs0
    have Hr := Lib.hid hr
    have Hcnt := Lib.hid hcnt
    have hv35 := Lib.hid (n.v.cells_length hv)
    have HFF := Lib.hid (And.intro h1 (And.intro hv hmw))
    have HLs := Lib.hid hLs
    have Ih := Lib.hid ih
    have hclS := Lib.hid (fun w2 (hb : Below w.heap.size w w2) => clone_str w2 an m cn (strs (n.kids.map Nd.name)) (hsn.below hb) (strs_one _) (by omega))
    have hclP := Lib.hid (fun w2 (hb : Below w.heap.size w w2) => clone_ptr w2 ak m ck (ptrs ps) (hsk.below hb) (ptrs_one _) (by omega))
    have hn0 : ¬ ((nm : Int) + 1 = 0) := by omega
    clear hsl hrow hkids hm hs hs0 hr hcnt h1 hv hmw hLs ih hsn hsk hFn hFk hpl hcn hck tro hcc hnl
    go_enter Try.func86, Try.ntmps86
    go_wp2_with fail
    have HKS : Hid (∀ w', Below w.heap.size w w' → Below w.heap.size w w' ∧ w'.cell? ⟨p, 39, none⟩ = some (.slice an m cn) ∧ w'.cell? ⟨p, 40, none⟩ = some (.slice ak m ck)) :=
      fun w' h => ⟨h, (h.cell hpw).trans c39, (h.cell hpw).trans c40⟩
    have Hkn := Lib.hid (Below.refl w.heap.size w)
    go_region_held3 (fun w' => Below w.heap.size w w' ∧ w'.cell? ⟨p, 39, none⟩ = some (.slice an m cn) ∧ w'.cell? ⟨p, 40, none⟩ = some (.slice ak m ck))
      (first | assumption | exact HKS.out _ Hkn.out | exact HKS.out _ (on_drew Hkn.out) | exact HKS.out _ (on_alloc Hkn.out _) | exact HKS.out _ (on_drew (on_alloc Hkn.out _)))
      (first
      | (go_at_call 109; go_split_ands; refine (hclS.out _ (by assumption)).mono ?_; rintro e wn ⟨a5, c5, rfl, hown5, hbn, hfr5⟩; have HS := Lib.hid (And.intro hown5 hfr5); have HbS := Lib.hid hbn; (try replace HP := Lib.hid (And.intro (HP.out.1.kept (Upd.below hbn fun _ => False) (fun _ _ => id)) HP.out.2)); have Hkn := Lib.hid (below_on (show Below w.heap.size w _ by assumption) hbn); clear hown5 hfr5 hbn)
      | (go_at_call 110; go_split_ands; refine (hclP.out _ (by assumption)).mono ?_; rintro e wn ⟨a6, c6, rfl, hown6, hbn, hfr6⟩; have HP := Lib.hid (And.intro hown6 hfr6); have HbP := Lib.hid hbn; (try replace HS := Lib.hid (And.intro (HS.out.1.kept (Upd.below hbn fun _ => False) (fun _ _ => id)) HS.out.2)); have Hkn := Lib.hid (below_on (show Below w.heap.size w _ by assumption) hbn); clear hown6 hfr6 hbn))
    -- BEHIND THE CLONES
    have hc1 : Cloned w wn (n.kids.map Nd.name) ps m a5 a6 c5 c6 := ⟨HS.out.1, HP.out.1, Hkn.out, fun b hb => HS.out.2 b hb, fun b hb => Nat.le_trans HbS.out.size (HP.out.2 b hb)⟩
    have HC := Lib.hid hc1
    have f0n := (Hkn.out.cell (p := ⟨g, off, none⟩) hgw).trans f0
    have hwn : w.heap.size ≤ wn.heap.size := hc1.low.size
    have hris := Hr.out
    rw [ris_eq] at hris
    clear hc1 HS HP HbS HbP c39 c40 f0 hclS hclP
    obtain ⟨i, hi⟩ : ∃ i, i = place n.kids t := ⟨_, rfl⟩
    have him : i ≤ m := by rw [hi, Hm.out, ← List.length_map (f := Nd.name)]; exact rank_le _ _
    have hpm : ps.length = m := by rw [HT.out.1, Hm.out]
    have hsea := search_any wn (n.kids.map Nd.name) t a5 m c5 HC.out.names.sl (by rw [List.length_map]; exact Hm.out.symm) hris.1 (by omega)
    rw [show rank (n.kids.map Nd.name) t = i from hi.symm] at hsea
    have Hi := Lib.hid hi
    clear hi hris
    cases hk : kidOf n.kids t with
    | none =>
      rw [kidOf_none hk] at hsea
      have Hsea := Lib.hid hsea
      have Hk := Lib.hid hk
      clear hsea
      cases s with
      | none =>
        exfalso
        have := Hs0.out rfl
        rw [subOf, hk] at this
        cases this
      | some x =>
      obtain ⟨q, x⟩ := x
      clear hk
      have Hx := Lib.hid (Hs.out q x rfl)
      have had : adO (some (q, x)) = .pointer (some ⟨q, 0, none⟩) := rfl
      go_wp2_with fail
      refine Hsea.out.mono ?_
      rintro e1 w1 ⟨rfl, hb1⟩
      have Hb1 := Lib.hid (HC.out.low.trans (hb1.mono hwn))
      have Hn1 := Lib.hid (HC.out.names.kept (Upd.below hb1 fun _ => False) (fun _ _ => id))
      have Hk1 := Lib.hid (HC.out.kids.kept (Upd.below hb1 fun _ => False) (fun _ _ => id))
      have f01 := (hb1.cell (p := ⟨g, off, none⟩) (Nat.lt_of_lt_of_le hgw hwn)).trans f0n
      have hw1 : w.heap.size ≤ w1.heap.size := Hb1.out.size
      clear hb1 f0n Hsea
      go_wp2_with fail
      refine (insert_str _ a5 m c5 (strs (n.kids.map Nd.name)) (Hn1.out.kept ((Upd.refl (fun _ => False) w1).alloc _) (fun _ _ => id)) (strs_one _) (.string t) rfl w1.heap.size (heap_alloc_new _ _) (fun h => by have := Hn1.out.lt h; omega) i him (by omega)).mono ?_
      rintro e2 w2 ⟨a7, c7, rfl, hown7, hu7, hfr7⟩
      rw [strs_ins] at hown7
      have hu12 : Upd (fun b => (Value.slice a5 m c5).ownBlock = some b) w1 w2 := ((Upd.refl _ w1).alloc _).trans hu7
      have Hu12 := Lib.hid hu12
      have Hn2 := Lib.hid hown7
      have Hk2 := Lib.hid (Hk1.out.kept hu12 (fun b hb h => Hk1.out.parted Hn1.out (by decide) b hb h))
      have Hb2 := Lib.hid (Hb1.out.upd (Nat.le_refl _) hu12 (fun b hb => HC.out.n1 b hb))
      have hw2 : w.heap.size ≤ w2.heap.size := Hb2.out.size
      have Hfr7 : Hid (∀ b, (Value.slice a7 (m + 1) c7).ownBlock = some b → w.heap.size ≤ b) := fun b hb => by
        by_cases h : (Value.slice a5 m c5).ownBlock = some b
        · exact HC.out.n1 b h
        · have h3 := hfr7 b h hb
          simp only [World.size_alloc] at h3
          omega
      clear hown7 hu7 hfr7 hu12 f01
      go_wp2_with fail
      refine (insert_ptr _ a6 m c6 (ptrs ps) (Hk2.out.kept ((Upd.refl (fun _ => False) w2).alloc _) (fun _ _ => id)) (ptrs_one _) (.pointer (some ⟨q, 0, none⟩)) rfl w2.heap.size (heap_alloc_new _ _) (fun h => by have := Hk2.out.lt h; omega) i him (by omega)).mono ?_
      rintro e3 w3 ⟨a8, c8, rfl, hown8, hu8, hfr8⟩
      rw [ptrs_ins] at hown8
      have hu23 : Upd (fun b => (Value.slice a6 m c6).ownBlock = some b) w2 w3 := ((Upd.refl _ w2).alloc _).trans hu8
      have Hn3 := Lib.hid (Hn2.out.kept hu23 (fun b hb h => Hn2.out.parted Hk2.out (by decide) b hb h))
      have Hk3 := Lib.hid hown8
      have Hb3 := Lib.hid (Hb2.out.upd (Nat.le_refl _) hu23 (fun b hb => HC.out.k1 b hb))
      have hTw := HT.out.kept (Upd.below Hb3.out (fun _ => False)) (fun _ _ => id)
      have hXw := TreeAt.below Hx.out Hb3.out
      obtain ⟨ks9, hks9⟩ : ∃ ks9, ks9 = n.kids.take i ++ x.named t :: n.kids.drop i := ⟨_, rfl⟩
      obtain ⟨ps9, hps9⟩ : ∃ ps9, ps9 = ps.take i ++ q :: ps.drop i := ⟨_, rfl⟩
      have HT3 := Lib.hid (show TreesAt w3 (fun b => F b ∨ w.heap.size ≤ b) (d + e) ps9 ks9 by
        rw [hks9, hps9]
        exact TreesAt.ins ((hTw.widen (G := fun b => F b ∨ w.heap.size ≤ b) (fun b hb _ => .inl hb)).deeper (Nat.le_add_right d e)) i q (x.named t) (by rw [← Hm.out]; exact him) (((TreeAt.mono (G := fun b => F b ∨ w.heap.size ≤ b) (fun b hb _ => .inl hb) _ _ _ hXw).deeper (Nat.le_add_left e d)).renamed t) (HLs.out t (by simp)))
      have hconc := Lib.hid (show withOf n (t :: l) (some x) = some (.mk n.name n.v n.m ks9) by rw [hks9, Hi.out]; exact withOf_new l x Hk.out)
      have Hsz := Lib.hid (show ks9.length = m + 1 ∧ cntAll ks9 ≤ 1000000000 ∧ (∀ b, (Value.slice a7 (m + 1) c7).ownBlock = some b → w.heap.size ≤ b) ∧ (∀ b, (Value.slice a8 (m + 1) c8).ownBlock = some b → w.heap.size ≤ b) from
        ⟨by rw [hks9, List.length_append, List.length_cons, List.length_take, List.length_drop, ← Hm.out]; omega, by
          have h1 := withOf_cnt (t :: l) n (some x) _ hconc.out
          have h2 : cntO (some x) = x.cnt := rfl
          have h3 := Hcnt.out
          rw [show Option.map Prod.snd (some (q, x)) = some x from rfl] at h3
          have h4 := cnt_eq (.mk n.name n.v n.m ks9)
          have h5 : (Nd.mk n.name n.v n.m ks9).kids = ks9 := rfl
          rw [h5] at h4
          omega, Hfr7.out, fun b hb => by
          by_cases h : (Value.slice a6 m c6).ownBlock = some b
          · exact HC.out.k1 b h
          · have h3 := hfr8 b h hb
            simp only [World.size_alloc] at h3
            omega⟩)
      have hnames : ks9.map Nd.name = (n.kids.map Nd.name).take i ++ t :: (n.kids.map Nd.name).drop i := by rw [hks9]; simp [List.map_take, List.map_drop, named_name]
      have Hnames := Lib.hid hnames
      rw [← hps9] at Hk3
      clear hown8 hu8 hfr8 hu23 hTw hXw hks9 hps9 hnames
      go_wp2_with fail
      have hrw := (Hb3.out.block p hpw).trans Hrow.out
      have trw := trow_at (o := 0) HFF.out.2.1 (rangeAt_row hrw)
      simp only [Nat.zero_add] at trw
      have Fv := Lib.hid trw.1
      have Fm := Lib.hid trw.2.1
      clear hrw trw
      go_still_tail 10, (by kernel_rfl)
      refine still_load_mid rfl 24 (.tmp 74) rfl p 0 rfl n.v.cells _ Fv.out Try.underlying24 rfl (by rw [hv35.out]; kernel_rfl) ?_
      repeat still_step
      refine still_load_mid rfl 27 (.tmp 78) rfl p 35 rfl (mcells n.m) _ Fm.out Try.underlying27 rfl (by kernel_rfl) ?_
      repeat still_step
      refine wpStill_nil ?_
      change wpList _ _ _ _ _ w3.drew
      go_wp2_with fail
      refine (made_any w3.drew (fun b => F b ∨ w.heap.size ≤ b) (d + e) n.v n.m HFF.out.2.1 HFF.out.2.2 ks9 ps9 (TreesAt.kept HT3.out (Upd.refl (fun _ => False) w3).drew (fun _ _ => id)) (m + 1) Hsz.out.1 a7 a8 c7 c8 Hn3.out.cap_le Hk3.out.cap_le (by rw [Hnames.out]; exact Hn3.out.drew.sl) Hk3.out.drew.sl Hsz.out.2.1 n.name (fun b hb _ => .inr (Hsz.out.2.2.1 b ((blk _ _ _ _ _).trans hb))) (fun b hb _ => .inr (Hsz.out.2.2.2 b ((blk _ _ _ _ _).trans hb)))).mono ?_
      rintro e9 w9 ⟨p9, rfl, ht9, hp9, hb9⟩
      have H9 := Lib.hid (And.intro ht9 hb9)
      have hsz9 : w.heap.size ≤ w3.heap.size := Hb3.out.size
      have hp9' : w3.heap.size ≤ p9 := hp9
      clear ht9 hp9 hb9 Fv Fm
      go_wp2
      go_ret
      refine ⟨.inr ⟨_, p9, hconc.out, rfl, ?_⟩, below_on Hb3.out.drew H9.out.2⟩
      rw [show d + 1 + e = d + e + 1 by omega]
      exact TreeAt.mono (fun b hb _ => by rcases hb with hb | hb; exact hb; exact .inr (by omega)) _ _ _ H9.out.1
    | some k =>
      obtain ⟨hk1, hk2, hf⟩ := kidOf_some hk
      rw [hf] at hsea
      have Hsea := Lib.hid hsea
      have Hk := Lib.hid hk
      rw [← Hi.out] at hk1
      have hilt : i < m := by rw [Hm.out]; exact (List.getElem?_eq_some_iff.1 hk1).1
      have hip : i < ps.length := by omega
      obtain ⟨q, hq⟩ : ∃ q, q = ps[i]'hip := ⟨_, rfl⟩
      have Htq := Lib.hid (HT.out.2 i q k (by rw [hq]; exact List.getElem?_eq_getElem hip) hk1).2
      have Hqi := Lib.hid (show (ptrs ps)[i]? = some (.pointer (some ⟨q, 0, none⟩)) by simp [ptrs, hip, hq])
      have Hki := Lib.hid hk1
      obtain ⟨ab, _, hcb, _, hsb, _⟩ := Hsl.out.cut Try.underlying71 (fun _ => by kernel_rfl) 1 (nm + 1) (by omega) (Nat.le_refl _) hnc
      have q1 : ∀ w, (Instr.sliceAt 71 (.slice (some ⟨g, off, none⟩) (nm + 1) c) (some (.int .i64 1)) none none).run Try.prog w = .ok (.slice ab nm (c - 1)) w := fun w => by
        have := hcb w 1 rfl rfl
        simpa using this
      have Hsb := Lib.hid (show Sl w 1 (.slice ab nm (c - 1)) nm (strs l) by
        have h := hsb
        rw [Nat.add_sub_cancel] at h
        have hl2 : (strs l).length = nm := by simp [strs, Hnm.out]
        rw [show ((strs (t :: l)).drop (1 * 1)).take (nm * 1) = strs l by rw [Nat.mul_one, Nat.mul_one, ← hl2]; exact List.take_length (l := strs l)] at h
        exact h)
      clear hsea hk hk2 hf hk1 hq hcb hsb hip
      go_wp2_with fail
      refine Hsea.out.mono ?_
      rintro e1 w1 ⟨rfl, hb1⟩
      have Hb1 := Lib.hid (HC.out.low.trans (hb1.mono hwn))
      have hn1 := HC.out.names.kept (Upd.below hb1 fun _ => False) (fun _ _ => id)
      have hk1 := HC.out.kids.kept (Upd.below hb1 fun _ => False) (fun _ _ => id)
      obtain ⟨g6, o6, cap6, cur6, hv6, hrow6, hfit6, hnc6, hcell6, hfz6⟩ := hk1.cells (ne_nil_of_length (by simp [ptrs]; omega))
      injection hv6 with hv61 _ hv63
      subst hv61 hv63
      have f6 := hcell6 i _ Hqi.out
      have z6 := hfz6 (o6 + i)
      have i1 : (0 : Int) ≤ (i : Int) := by omega
      have i2 : (i : Int) < (m : Int) := by omega
      have n1 : (1 : Int) ≤ (nm : Int) + 1 := by omega
      have hw1 : w.heap.size ≤ w1.heap.size := Hb1.out.size
      have Hn1 := Lib.hid hn1
      have Hk1 := Lib.hid hk1
      have Hg6 := Lib.hid (Hk1.out.lt (k := g6) rfl)
      have hwithc := Ih.out (fun b => F b ∧ b < w.heap.size) w1.drew q k l ab nm (c - 1) s e ((TreeAt.mono (fun b hb hlt => ⟨hb, hlt⟩) _ _ _ Htq.out).below (on_drew Hb1.out)) (kidOf_ris Hr.out Hk.out) ((Hsb.out.below Hb1.out).kept (Upd.refl (fun _ => False) w1).drew (fun _ _ _ => id)) Hnm.out (by omega) (by omega) (fun y hy => HLs.out y (by simp [hy])) (fun q' x' h => (TreeAt.mono (fun b hb hlt => ⟨hb, hlt⟩) _ _ _ (Hs.out q' x' h)).below (on_drew Hb1.out)) (fun h => by have := Hs0.out h; rw [subOf, Hk.out] at this; exact this) (by have := Hcnt.out; have := kidOf_cnt Hk.out; omega)
      have Hwc := Lib.hid hwithc
      clear hb1 Hsea hn1 hk1 hrow6 hfit6 hcell6 hfz6 hwithc f0n
      go_wp2_with fail
      go_still_tail 7, (by kernel_rfl)
      change wpList _ _ _ _ _ w1.drew
      go_wp2_with fail
      refine Hwc.out.mono ?_
      rintro e2 w2 ⟨hcase, hb2⟩
      have hb12 : Below w1.heap.size w1 w2 := (Upd.toBelow ((Upd.refl (fun b => w1.heap.size ≤ b) w1).drew) (fun k h => h) (Nat.le_refl _)).trans hb2
      have Hb2 := Lib.hid (below_on Hb1.out hb12)
      have Hn2 := Lib.hid (Hn1.out.kept (Upd.below hb12 fun _ => False) (fun _ _ => id))
      have Hk2 := Lib.hid (Hk1.out.kept (Upd.below hb12 fun _ => False) (fun _ _ => id))
      have hw2 : w.heap.size ≤ w2.heap.size := Hb2.out.size
      have z62 : w2.frozen? ⟨g6, o6 + i, none⟩ = false := by
        obtain ⟨_, _, _, cur, hv, hrow, _⟩ := Hk2.out.cells (ne_nil_of_length (by simp [ptrs]; omega))
        injection hv with hv1 _ _
        injection hv1 with hv1
        injection hv1 with hv1 hv2
        rw [hv1]
        exact frozen_of_row w2 _ _ _ _ hrow
      have f62 := (hb12.cell (p := ⟨g6, o6 + i, none⟩) Hg6.out).trans f6
      clear hb2 hb12 f6 z6 Hwc
      rcases hcase with ⟨hwn0, rfl⟩ | ⟨r, p2, hws, rfl, ht2⟩
      · have Hwn0 := Lib.hid hwn0
        have j1 : IntKind.i64.wrap ((i : Int) + 1) = (i : Int) + 1 := IntWalk.i64_in _ (by omega)
        clear hwn0
        go_wp2_with fail
        refine (delete_str w2 a5 m c5 (strs (n.kids.map Nd.name)) Hn2.out (strs_one _) i hilt _ rfl).mono ?_
        rintro e3 w3 ⟨rfl, hown3, hu3⟩
        rw [strs_cut] at hown3
        have Hn3 := Lib.hid hown3
        have Hk3 := Lib.hid (Hk2.out.kept hu3 (fun b hb h => Hk2.out.parted Hn2.out (by decide) b hb h))
        have Hb3 := Lib.hid (Hb2.out.upd (Nat.le_refl _) hu3 (fun b hb => HC.out.n1 b hb))
        have hw3 : w.heap.size ≤ w3.heap.size := Hb3.out.size
        clear hown3 hu3 f62 z62
        go_wp2_with fail
        refine (delete_ptr w3 (some ⟨g6, o6, none⟩) m c6 (ptrs ps) Hk3.out (ptrs_one _) i hilt _ rfl).mono ?_
        rintro e4 w4 ⟨rfl, hown4, hu4⟩
        rw [ptrs_cut] at hown4
        have Hk4 := Lib.hid hown4
        have Hn4 := Lib.hid (Hn3.out.kept hu4 (fun b hb h => Hn3.out.parted Hk3.out (by decide) b ((blk _ _ _ _ _).trans hb) h))
        have Hb4 := Lib.hid (Hb3.out.upd (Nat.le_refl _) hu4 (fun b hb => HC.out.k1 b hb))
        have hTw := HT.out.kept (Upd.below Hb4.out (fun _ => False)) (fun _ _ => id)
        obtain ⟨ks9, hks9⟩ : ∃ ks9, ks9 = n.kids.eraseIdx i := ⟨_, rfl⟩
        obtain ⟨ps9, hps9⟩ : ∃ ps9, ps9 = ps.eraseIdx i := ⟨_, rfl⟩
        have HT4 := Lib.hid (show TreesAt w4 (fun b => F b ∨ w.heap.size ≤ b) (d + e) ps9 ks9 by
          rw [hks9, hps9]
          exact TreesAt.erase ((hTw.widen (G := fun b => F b ∨ w.heap.size ≤ b) (fun b hb _ => .inl hb)).deeper (Nat.le_add_right d e)) i (by rw [← Hm.out]; exact hilt))
        have hconc := Lib.hid (show withOf n (t :: l) (s.map Prod.snd) = some (.mk n.name n.v n.m ks9) by rw [hks9, Hi.out]; exact withOf_cut Hk.out Hwn0.out)
        have Hsz := Lib.hid (show ks9.length = m - 1 ∧ cntAll ks9 ≤ 1000000000 ∧ (∀ b, (Value.slice a5 (m - 1) c5).ownBlock = some b → w.heap.size ≤ b) ∧ (∀ b, (Value.slice (some ⟨g6, o6, none⟩) (m - 1) c6).ownBlock = some b → w.heap.size ≤ b) from
          ⟨by rw [hks9, List.length_eraseIdx, ← Hm.out, if_pos hilt], by
            have h1 := withOf_cnt (t :: l) n _ _ hconc.out
            have h3 := Hcnt.out
            have h4 := cnt_eq (.mk n.name n.v n.m ks9)
            have h5 : (Nd.mk n.name n.v n.m ks9).kids = ks9 := rfl
            rw [h5] at h4
            omega, fun b hb => HC.out.n1 b ((blk _ _ _ _ _).trans hb), fun b hb => HC.out.k1 b ((blk _ _ _ _ _).trans hb)⟩)
        have hnames : ks9.map Nd.name = (n.kids.map Nd.name).eraseIdx i := by rw [hks9]; simp [List.eraseIdx_eq_take_drop_succ, List.map_take, List.map_drop]
        have Hnames := Lib.hid hnames
        rw [← hps9] at Hk4
        clear hown4 hu4 hTw hks9 hps9 hnames j1
        go_wp2_with fail
        have hrw := (Hb4.out.block p hpw).trans Hrow.out
        have trw := trow_at (o := 0) HFF.out.2.1 (rangeAt_row hrw)
        simp only [Nat.zero_add] at trw
        have Fv := Lib.hid trw.1
        have Fm := Lib.hid trw.2.1
        clear hrw trw
        go_still_tail 10, (by kernel_rfl)
        refine still_load_mid rfl 24 (.tmp 74) rfl p 0 rfl n.v.cells _ Fv.out Try.underlying24 rfl (by rw [hv35.out]; kernel_rfl) ?_
        repeat still_step
        refine still_load_mid rfl 27 (.tmp 78) rfl p 35 rfl (mcells n.m) _ Fm.out Try.underlying27 rfl (by kernel_rfl) ?_
        repeat still_step
        refine wpStill_nil ?_
        change wpList _ _ _ _ _ w4.drew
        go_wp2_with fail
        refine (made_any w4.drew (fun b => F b ∨ w.heap.size ≤ b) (d + e) n.v n.m HFF.out.2.1 HFF.out.2.2 ks9 ps9 (TreesAt.kept HT4.out (Upd.refl (fun _ => False) w4).drew (fun _ _ => id)) (m - 1) Hsz.out.1 a5 (some ⟨g6, o6, none⟩) c5 c6 Hn4.out.cap_le Hk4.out.cap_le (by rw [Hnames.out]; exact Hn4.out.drew.sl) Hk4.out.drew.sl Hsz.out.2.1 n.name (fun b hb _ => .inr (Hsz.out.2.2.1 b ((blk _ _ _ _ _).trans hb))) (fun b hb _ => .inr (Hsz.out.2.2.2 b ((blk _ _ _ _ _).trans hb)))).mono ?_
        rintro e9 w9 ⟨p9, rfl, ht9, hp9, hb9⟩
        have H9 := Lib.hid (And.intro ht9 hb9)
        have hsz9 : w.heap.size ≤ w4.heap.size := Hb4.out.size
        have hp9' : w4.heap.size ≤ p9 := hp9
        clear ht9 hp9 hb9 Fv Fm
        go_wp2
        go_ret
        refine ⟨.inr ⟨_, p9, hconc.out, rfl, ?_⟩, below_on Hb4.out.drew H9.out.2⟩
        rw [show d + 1 + e = d + e + 1 by omega]
        exact TreeAt.mono (fun b hb _ => by rcases hb with hb | hb; exact hb; exact .inr (by omega)) _ _ _ H9.out.1
      · have Hws := Lib.hid hws
        have hu3 : Upd (fun b => b = g6) w2 (w2.setCell ⟨g6, o6 + i, none⟩ (.pointer (some ⟨p2, 0, none⟩))) := (Upd.refl _ _).setCell _ _ (fun _ => rfl)
        have hown3 := Hk2.out.set i (.pointer (some ⟨p2, 0, none⟩)) (by omega)
        rw [ptrs_set] at hown3
        obtain ⟨w3, hw3⟩ : ∃ w3, w3 = w2.setCell ⟨g6, o6 + i, none⟩ (.pointer (some ⟨p2, 0, none⟩)) := ⟨_, rfl⟩
        rw [← hw3] at hu3 hown3
        have Hk3 := Lib.hid hown3
        have Hn3 := Lib.hid (Hn2.out.kept hu3 (fun b hb h => by rw [h] at hb; exact Hn2.out.parted Hk2.out (by decide) _ hb rfl))
        have Hb3 := Lib.hid (Hb2.out.upd (Nat.le_refl _) hu3 (fun b hb => by rw [hb]; exact HC.out.k1 _ rfl))
        have hTw := HT.out.kept (Upd.below Hb3.out (fun _ => False)) (fun _ _ => id)
        have hg6w := HC.out.k1 g6 rfl
        have hg6l := Hg6.out
        have ht3 : TreeAt w3 (fun b => F b ∨ w.heap.size ≤ b) (d + e) p2 r := TreeAt.mono (fun b hb _ => by rcases hb with hb | hb; exact .inl hb.1; exact .inr (Nat.le_trans hw1 hb)) _ _ _ (TreeAt.kept hu3 (fun b hb h => by rcases hb with hb | hb; have := hb.2; omega; have hb' : w1.heap.size ≤ b := hb; omega) _ _ _ ht2)
        obtain ⟨ks9, hks9⟩ : ∃ ks9, ks9 = n.kids.set i (r.named t) := ⟨_, rfl⟩
        obtain ⟨ps9, hps9⟩ : ∃ ps9, ps9 = ps.set i p2 := ⟨_, rfl⟩
        have HT3 := Lib.hid (show TreesAt w3 (fun b => F b ∨ w.heap.size ≤ b) (d + e) ps9 ks9 by
          rw [hks9, hps9]
          exact TreesAt.set ((hTw.widen (G := fun b => F b ∨ w.heap.size ≤ b) (fun b hb _ => .inl hb)).deeper (Nat.le_add_right d e)) i p2 (r.named t) (ht3.renamed t) (HLs.out t (by simp)))
        have hconc := Lib.hid (show withOf n (t :: l) (s.map Prod.snd) = some (.mk n.name n.v n.m ks9) by rw [hks9, Hi.out]; exact withOf_put Hk.out Hws.out)
        have Hsz := Lib.hid (show ks9.length = m ∧ cntAll ks9 ≤ 1000000000 ∧ (∀ b, (Value.slice a5 m c5).ownBlock = some b → w.heap.size ≤ b) ∧ (∀ b, (Value.slice (some ⟨g6, o6, none⟩) m c6).ownBlock = some b → w.heap.size ≤ b) from
          ⟨by rw [hks9, List.length_set, ← Hm.out], by
            have h1 := withOf_cnt (t :: l) n _ _ hconc.out
            have h3 := Hcnt.out
            have h4 := cnt_eq (.mk n.name n.v n.m ks9)
            have h5 : (Nd.mk n.name n.v n.m ks9).kids = ks9 := rfl
            rw [h5] at h4
            omega, HC.out.n1, HC.out.k1⟩)
        have hnames : ks9.map Nd.name = n.kids.map Nd.name := by
          rw [hks9, List.map_set, named_name, ← (kidOf_some Hk.out).2.1]
          refine List.ext_getElem? fun j => ?_
          rw [List.getElem?_set]
          split
          · rename_i hij
            subst hij
            have hlt : i < (n.kids.map Nd.name).length := by rw [List.length_map, ← Hm.out]; exact hilt
            rw [if_pos hlt, List.getElem?_map, Hki.out]
            rfl
          · rfl
        have Hnames := Lib.hid hnames
        rw [← hps9] at Hk3
        have Hw3 := Lib.hid hw3
        clear hown3 hu3 hTw hks9 hps9 hnames hws ht2 ht3 hw3
        go_wp2_with fail
        rw [← Hw3.out]
        clear f62 z62 Hw3
        have hrw := (Hb3.out.block p hpw).trans Hrow.out
        have trw := trow_at (o := 0) HFF.out.2.1 (rangeAt_row hrw)
        simp only [Nat.zero_add] at trw
        have Fv := Lib.hid trw.1
        have Fm := Lib.hid trw.2.1
        clear hrw trw
        go_still_tail 10, (by kernel_rfl)
        refine still_load_mid rfl 24 (.tmp 74) rfl p 0 rfl n.v.cells _ Fv.out Try.underlying24 rfl (by rw [hv35.out]; kernel_rfl) ?_
        repeat still_step
        refine still_load_mid rfl 27 (.tmp 78) rfl p 35 rfl (mcells n.m) _ Fm.out Try.underlying27 rfl (by kernel_rfl) ?_
        repeat still_step
        refine wpStill_nil ?_
        change wpList _ _ _ _ _ w3.drew
        go_wp2_with fail
        refine (made_any w3.drew (fun b => F b ∨ w.heap.size ≤ b) (d + e) n.v n.m HFF.out.2.1 HFF.out.2.2 ks9 ps9 (TreesAt.kept HT3.out (Upd.refl (fun _ => False) w3).drew (fun _ _ => id)) m Hsz.out.1 a5 (some ⟨g6, o6, none⟩) c5 c6 Hn3.out.cap_le Hk3.out.cap_le (by rw [Hnames.out]; exact Hn3.out.drew.sl) Hk3.out.drew.sl Hsz.out.2.1 n.name (fun b hb _ => .inr (Hsz.out.2.2.1 b ((blk _ _ _ _ _).trans hb))) (fun b hb _ => .inr (Hsz.out.2.2.2 b ((blk _ _ _ _ _).trans hb)))).mono ?_
        rintro e9 w9 ⟨p9, rfl, ht9, hp9, hb9⟩
        have H9 := Lib.hid (And.intro ht9 hb9)
        have hsz9 : w.heap.size ≤ w3.heap.size := Hb3.out.size
        have hp9' : w3.heap.size ≤ p9 := hp9
        clear ht9 hp9 hb9 Fv Fm
        go_wp2
        go_ret
        refine ⟨.inr ⟨_, p9, hconc.out, rfl, ?_⟩, below_on Hb3.out.drew H9.out.2⟩
        rw [show d + 1 + e = d + e + 1 by omega]
        exact TreeAt.mono (fun b hb _ => by rcases hb with hb | hb; exact hb; exact .inr (by omega)) _ _ _ H9.out.1
theorem with_ok : ∀ d : Nat, WithOk d
  | 0 => fun F w p n L a nl c s e ht => ht.elim
  | d + 1 => with_step d (with_ok d)
end Go.Proofs.Ythnbinlllmkabaa
