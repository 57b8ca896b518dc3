/- The law's likeOpen, walked. (Written by gen_like.py.) -/
import Derived.Test.YthnbinlllmkabaaTSame
import Derived.Deep.RegionHeld3
namespace Go.Proofs.Ythnbinlllmkabaa
open Go.RowKit
set_option linter.unusedVariables false
set_option linter.unusedSimpArgs false

/-- The same, names too, an unknown mode being any. -/
def likeR (n u : Nd) : Bool := decide (n.name = u.name) && sameO true n u
theorem like_names {n u : Nd} (h : n.name ≠ u.name) : likeR n u = false := by unfold likeR; rw [decide_eq_false h]; rfl
theorem like_val {n u : Nd} (h : openV true n.v u.v ≠ u.v) : likeR n u = false := by unfold likeR; rw [sameO_eq, decide_eq_false h, Bool.false_and, Bool.and_false]
theorem like_len {n u : Nd} (h : n.kids.length ≠ u.kids.length) : likeR n u = false := by
  have h2 : n.kids.map Nd.name ≠ u.kids.map Nd.name := fun e => h (by have := congrArg List.length e; simpa using this)
  unfold likeR
  rw [sameO_eq, decide_eq_false h2, Bool.false_and, Bool.and_false, Bool.and_false]
theorem like_kid {n u x y : Nd} {k : Nat} (hx : n.kids[k]? = some x) (hy : u.kids[k]? = some y) (h : likeR x y = false) : likeR n u = false := by
  rw [Bool.eq_false_iff]
  intro e
  unfold likeR at e
  rw [Bool.and_eq_true, sameO_eq, Bool.and_eq_true, Bool.and_eq_true] at e
  obtain ⟨_, _, e2, e3⟩ := e
  have e2 := of_decide_eq_true e2
  have hn : x.name = y.name := by
    have h1 := congrArg (fun l => l[k]?) e2
    simp only [List.getElem?_map, hx, hy, Option.map_some] at h1
    injection h1
  have hs := (sameKids_iff true _ _).1 e3 k x y hx hy
  unfold likeR at h
  rw [decide_eq_true hn, hs] at h
  cases h
theorem names_eq {ks js : List Nd} (h3 : ks.length = js.length) (h4 : ∀ (i : Nat) (a b : Nd), ks[i]? = some a → js[i]? = some b → a.name = b.name) : ks.map Nd.name = js.map Nd.name := by
  apply List.ext_getElem?
  intro i
  rw [List.getElem?_map, List.getElem?_map]
  cases hi : ks[i]? with
  | none =>
    have hj : js[i]? = none := by rw [List.getElem?_eq_none_iff] at hi ⊢; omega
    rw [hj]
  | some a =>
    have hlt := (List.getElem?_eq_some_iff.1 hi).1
    obtain ⟨b, hb⟩ : ∃ b, js[i]? = some b := ⟨_, List.getElem?_eq_getElem (by omega)⟩
    rw [hb]
    show some a.name = some b.name
    rw [h4 i a b hi hb]
theorem like_all {n u : Nd} (h1 : n.name = u.name) (h2 : openV true n.v u.v = u.v) (h3 : n.kids.length = u.kids.length) (h4 : ∀ (i : Nat) (a b : Nd), n.kids[i]? = some a → u.kids[i]? = some b → likeR a b = true) : likeR n u = true := by
  have h5 : ∀ (i : Nat) (a b : Nd), n.kids[i]? = some a → u.kids[i]? = some b → a.name = b.name ∧ sameO true a b = true := fun i a b ha hb => by
    have := h4 i a b ha hb
    unfold likeR at this
    rw [Bool.and_eq_true] at this
    exact ⟨of_decide_eq_true this.1, this.2⟩
  unfold likeR
  rw [sameO_eq, decide_eq_true h1, decide_eq_true h2, decide_eq_true (names_eq h3 (fun i a b ha hb => (h5 i a b ha hb).1)), (sameKids_iff true _ _).2 (fun i a b ha hb => (h5 i a b ha hb).2)]
  rfl
theorem wpList_store_freshS {P : Program} {ops : Array Oper} {rest : List Oper} {o : Oper} {a : Act} {Q : Exit → Act → World → Prop} {w0 : World} {old : Array Value} {t : TypeId} (hgd : o.guard = none) (ty : TypeId) (x y : Operand) (ho : o.op = .store ty x y)
    (cells : Array Value) (g : Nat) (hg : w0.heap.size = g) (hx : a.eval x = .pointer (some ⟨g, 0, none⟩)) (hy : a.eval y = .agg cells) (hi : (P.info? ty).map (·.size) = some cells.size) (hold : old.size = cells.size) (h1 : cells.all (·.oneCell') = true)
    (h : ∀ w2 : World, w2.heap[g]? = some (.cells cells t (0, 0)) → Below w0.heap.size w0 w2 → wpList P ops Q rest (a.put o.dst undef) w2) :
    wpList P ops Q (o :: rest) a (w0.alloc (.cells old t)) := by
  subst hg
  exact wpList_store_fresh hgd ty x y ho cells hx hy hi hold h1 (fun w2 _ h2 h3 => h w2 h2 h3)
set_option maxHeartbeats 8000000 in
set_option maxRecDepth 100000 in
theorem like_step (d : Nat) (ih : ∀ e, d = e + 1 → ∀ (F G : Nat → Prop) (w : World) (n u : Nd) (a : Option Addr) (c : Nat) (a' : Option Addr) (c' : Nat), NodeIn w F e n a → NodeIn w G e u a' →
      Calls Try.prog 45 #[.agg (n.row a c).toArray, .agg (u.row a' c').toArray] w fun e' w' => e' = .returned (.bool (likeR n u)) ∧ Below w.heap.size w w')
    (F G : Nat → Prop) (w : World) (n u : Nd) (a : Option Addr) (c : Nat) (a' : Option Addr) (c' : Nat) (hn : NodeIn w F d n a) (hu : NodeIn w G d u a') :
    Calls Try.prog 45 #[.agg (n.row a c).toArray, .agg (u.row a' c').toArray] w fun e' w' => e' = .returned (.bool (likeR n u)) ∧ Below w.heap.size w w' := by
  have HT := Lib.hid (Two.made w (n.row a c) (u.row a' c'))
  obtain ⟨_, v1, _, _⟩ := nrow_at (o := 0) hn.vwf (rangeAt_row HT.out.1)
  simp only [Nat.zero_add] at v1
  have V1 := Lib.hid v1
  have Ih := Lib.hid ih
  have hkz := hn.ksz
  have hkz2 := hu.ksz
  obtain ⟨m, hm⟩ : ∃ m, m = n.kids.length := ⟨_, rfl⟩
  obtain ⟨l, hl⟩ : ∃ l, l = u.kids.length := ⟨_, rfl⟩
  rw [← hm] at hkz
  rw [← hl] at hkz2
  have Hn := Lib.hid hn
  have Hu := Lib.hid hu
  have Hm := Lib.hid hm
  have Hl := Lib.hid hl
  have l35 := Lib.hid (n.v.cells_length hn.vwf)
  have k35 := Lib.hid (u.v.cells_length hu.vwf)
  have s35 := Lib.hid (show n.v.cells.toArray.size = 35 by rw [List.size_toArray]; exact n.v.cells_length hn.vwf)
  have o35 := Lib.hid (show n.v.cells.toArray.all (·.oneCell') = true from all_one n.v.cells_one)
  clear hn hu ih v1 hm hl
  go_enter Try.func45, Try.ntmps45
  go_wp2_with (first | (refine wpList_load_midg (by rfl) 24 (.tmp 7) rfl w.heap.size 1 rfl n.v.cells _ V1.out Try.underlying24 rfl (by rw [l35.out]; kernel_rfl) ?_) | (refine wpList_store_freshS rfl 24 _ _ rfl n.v.cells.toArray (w.heap.size + 1 + 1) (by simp only [World.size_alloc]) rfl rfl (by rw [s35.out]; kernel_rfl) (by rw [s35.out]; rfl) o35.out ?_))
  intro w1 hr1 hb1
  obtain ⟨B1, hB1⟩ : ∃ B1, B1 = w.heap.size := ⟨_, rfl⟩
  obtain ⟨B2, hB2⟩ : ∃ B2, B2 = w.heap.size + 1 := ⟨_, rfl⟩
  obtain ⟨B3, hB3⟩ : ∃ B3, B3 = w.heap.size + 1 + 1 := ⟨_, rfl⟩
  have ht1 := HT.out.next (w2 := w1) (by simp only [World.size_alloc]; exact hb1)
  rw [← hB2, ← hB1] at ht1
  rw [← hB3] at hr1
  rw [← hB3, ← hB2, ← hB1]
  have Hne := Lib.hid (show B1 ≠ B3 ∧ B2 ≠ B3 ∧ w.heap.size ≤ B3 by omega)
  have HT1 := Lib.hid ht1
  have Hr1 := Lib.hid hr1
  have hv2 := vl_at (nrow_at (o := 0) Hu.out.vwf (rangeAt_row ht1.2.1)).2.1
  simp only [Nat.zero_add] at hv2
  have d1 := hv2.1
  have d2 := hv2.2.1
  clear HT V1 hr1 hb1 ht1 hB1 hB2 hB3 hv2
  by_cases hm8 : u.v.mode = 8
  · have e1 : (u.v.mode == 8) = true := by rw [hm8]; rfl
    by_cases hk3 : u.v.kind = 3
    · have e2 : (u.v.kind != 3) = false := by rw [hk3]; rfl
      have Hop := Lib.hid (show openV true n.v u.v = n.v by unfold openV; rw [if_neg (by simp [hk3])])
      clear hm8 hk3
      obtain ⟨vv, hvv⟩ : ∃ vv, vv = n.v := ⟨_, rfl⟩
      have hrt := Hr1.out
      have hop := Hop.out
      rw [← hvv] at hrt
      rw [show (openV true n.v u.v = n.v) = (openV true n.v u.v = vv) by rw [hvv]] at hop
      replace Hop := Lib.hid hop
      have Hrt := Lib.hid hrt
      have HTt := Lib.hid HT1.out
      clear hvv hrt hop Hr1 l35 s35 o35
      -- wt: the value vv lies in B3
      have Hvl := Lib.hid (show vv.cells.length = 35 from vv.cells_length (by rw [← Hop.out]; exact openV_wf Hn.out.vwf))
      have hsum : vv.sum.length = 32 := by have := openV_wf (o := true) (u := u.v) Hn.out.vwf; rw [Hop.out] at this; exact this.1
      have heq : ∀ w, (Op.equalIn 10000 24 (.agg vv.cells.toArray) (.agg u.v.cells.toArray)).run Try.prog w = .ok (decide (vv = u.v)) w := fun w => eq_value vv u.v hsum Hu.out.vwf.1 w
      have Rb := Lib.hid (rangeAt_row Hrt.out)
      obtain ⟨n1, _, _, f40⟩ := nrow_at (o := 0) Hn.out.vwf (rangeAt_row HT1.out.1)
      obtain ⟨n2, _, _, g40⟩ := nrow_at (o := 0) Hu.out.vwf (rangeAt_row HT1.out.2.1)
      have v2 := (nrow_at (o := 0) Hu.out.vwf (rangeAt_row HTt.out.2.1)).2.1
      simp only [Nat.zero_add] at n1 n2 v2 f40 g40
      rw [← Hm.out] at f40
      rw [← Hl.out] at g40
      have V2 := Lib.hid v2
      clear v2 hsum
      by_cases hnm : n.name = u.name
      rotate_left
      · have hb1 : (n.name.toList == u.name.toList) = false := names_ne hnm
        have Hr := Lib.hid (like_names hnm)
        clear hnm heq
        go_wp2_with (first | (refine wpList_load_midg (by rfl) 24 (.tmp 5) rfl B3 0 rfl vv.cells _ Rb.out Try.underlying24 rfl (by rw [Hvl.out]; kernel_rfl) ?_) | (refine wpList_load_midg (by rfl) 24 (.tmp 27) rfl B2 1 rfl u.v.cells _ V2.out Try.underlying24 rfl (by rw [k35.out]; kernel_rfl) ?_))
        go_ret
        exact ⟨ret_b Hr.out.symm, HTt.out.2.2⟩
      rw [← hnm] at n2
      have Hnm := Lib.hid hnm
      clear hnm
      by_cases hne : vv = u.v
      rotate_left
      · have hd : decide (vv = u.v) = false := decide_eq_false hne
        have Hr := Lib.hid (like_val (n := n) (u := u) (by rw [Hop.out]; exact hne))
        rw [hd] at heq
        clear hne hd
        go_wp2_with (first | (refine wpList_load_midg (by rfl) 24 (.tmp 5) rfl B3 0 rfl vv.cells _ Rb.out Try.underlying24 rfl (by rw [Hvl.out]; kernel_rfl) ?_) | (refine wpList_load_midg (by rfl) 24 (.tmp 27) rfl B2 1 rfl u.v.cells _ V2.out Try.underlying24 rfl (by rw [k35.out]; kernel_rfl) ?_))
        go_ret
        exact ⟨ret_b Hr.out.symm, HTt.out.2.2⟩
      have hd : decide (vv = u.v) = true := decide_eq_true hne
      rw [hd] at heq
      have Hvu := Lib.hid (show openV true n.v u.v = u.v by rw [Hop.out]; exact hne)
      clear hd hne
      by_cases c3 : m = l
      rotate_left
      · have Hr := Lib.hid (like_len (n := n) (u := u) (by rw [← Hm.out, ← Hl.out]; exact c3))
        have c4 : ((m : Int) != (l : Int)) = true := by rw [bne_iff_ne]; omega
        go_wp2_with (first | (refine wpList_load_midg (by rfl) 24 (.tmp 5) rfl B3 0 rfl vv.cells _ Rb.out Try.underlying24 rfl (by rw [Hvl.out]; kernel_rfl) ?_) | (refine wpList_load_midg (by rfl) 24 (.tmp 27) rfl B2 1 rfl u.v.cells _ V2.out Try.underlying24 rfl (by rw [k35.out]; kernel_rfl) ?_))
        go_ret
        exact ⟨ret_b Hr.out.symm, HTt.out.2.2⟩
      subst c3
      go_wp2_with (first | (refine wpList_load_midg (by rfl) 24 (.tmp 5) rfl B3 0 rfl vv.cells _ Rb.out Try.underlying24 rfl (by rw [Hvl.out]; kernel_rfl) ?_) | (refine wpList_load_midg (by rfl) 24 (.tmp 27) rfl B2 1 rfl u.v.cells _ V2.out Try.underlying24 rfl (by rw [k35.out]; kernel_rfl) ?_))
      clear n1 n2 f40 g40 V2 Rb heq Hvl Hop HT1 d1 d2
      go_loopw [6] (fun i wr => ∃ k : Nat, k ≤ m ∧ i = .int .i64 k ∧ Two w B1 B2 (n.row a c) (u.row a' c') wr ∧ (∀ (i : Nat) (a b : Nd), i < k → n.kids[i]? = some a → u.kids[i]? = some b → likeR a b = true)) (fun i _ => m - (intOf i).toNat)
      case atStart => exact ⟨0, Nat.zero_le _, rfl, HTt.out, fun i a b h => absurd h (Nat.not_lt_zero _)⟩
      case round =>
        obtain ⟨k, hk, rfl, htw, hall⟩ := hrel
        have Htw := Lib.hid htw
        have Hall := Lib.hid hall
        obtain ⟨_, _, _, f40⟩ := nrow_at (o := 0) Hn.out.vwf (rangeAt_row htw.1)
        obtain ⟨_, _, _, g40⟩ := nrow_at (o := 0) Hu.out.vwf (rangeAt_row htw.2.1)
        simp only [Nat.zero_add] at f40 g40
        rw [← Hm.out] at f40
        rw [← Hl.out] at g40
        clear htw hall
        by_cases hlt : k < m
        · have hd : ∃ e, d = e + 1 := by
            cases d with
            | zero => exfalso; have h0 : n.kids = [] := Hn.out.kids; have := Hm.out; rw [h0] at this; simp at this; omega
            | succ e => exact ⟨e, rfl⟩
          obtain ⟨d', hd⟩ := hd
          have ihe := Ih.out d' hd
          have hkn := Hn.out.kids
          have hkn2 := Hu.out.kids
          rw [hd] at hkn hkn2
          have hk1 : k < n.kids.length := by rw [← Hm.out]; exact hlt
          have hk2 : k < u.kids.length := by rw [← Hl.out]; exact hlt
          obtain ⟨g, o, ax, cx, rfl, hF, hr, hni⟩ := (hkn.below (Htw.out.2.2)).at hk1
          obtain ⟨g', o', ay, cy, rfl, hF2, hr2, hni2⟩ := (hkn2.below (Htw.out.2.2)).at hk2
          obtain ⟨x, hx⟩ : ∃ x, x = n.kids[k] := ⟨_, rfl⟩
          obtain ⟨y, hy⟩ : ∃ y, y = u.kids[k] := ⟨_, rfl⟩
          have Hxy := Lib.hid (show n.kids[k]? = some x ∧ u.kids[k]? = some y from ⟨by rw [hx]; exact List.getElem?_eq_getElem hk1, by rw [hy]; exact List.getElem?_eq_getElem hk2⟩)
          rw [← hx] at hr hni
          rw [← hy] at hr2 hni2
          have Hr := Lib.hid hr
          have Hr2 := Lib.hid hr2
          have i1 : (0 : Int) ≤ (k : Int) := by omega
          have i2 : (k : Int) < (m : Int) := by omega
          have hcall := ihe F G wr.drew x y ax cx ay cy (hni.below (on_drew (Below.refl _ _))) (hni2.below (on_drew (Below.refl _ _)))
          obtain ⟨lb, hlb⟩ : ∃ lb, lb = likeR x y := ⟨_, rfl⟩
          rw [← hlb] at hcall
          have Hlb := Lib.hid hlb
          have Hcall := Lib.hid hcall
          have inf41 : (Try.prog.info? 30).map (·.size) = some (x.row ax cx).length := by rw [row_len hni.vwf]; kernel_rfl
          have inf41' : (Try.prog.info? 30).map (·.size) = some (y.row ay cy).length := by rw [row_len hni2.vwf]; kernel_rfl
          have und41 := Try.underlying30
          have HK : Hid (∀ w', Below wr.heap.size wr w' → Below wr.heap.size wr w' ∧ w'.cell? ⟨B1, 40, none⟩ = some (.slice (some ⟨g, o, none⟩) m c) ∧ w'.cell? ⟨B2, 40, none⟩ = some (.slice (some ⟨g', o', none⟩) m c') ∧ w'.rangeAt g (o + k * 41) (x.row ax cx) ∧ w'.rangeAt g' (o' + k * 41) (y.row ay cy)) := fun w' hb => by
            have hup : Upd (fun _ => False) wr w' := Upd.below hb _
            exact ⟨hb, hup.cell f40 id, hup.cell g40 id, rangeAt_kept Hr.out hup id, rangeAt_kept Hr2.out hup id⟩
          clear hr hr2 hni hni2 hkn hkn2 ihe hd hx hy hk1 hk2 hcall hlb
          go_wp2_with fail
          refine wp_region_noPanic ?_
          refine wp_region_held_drew (S := (fun w' => Below wr.heap.size wr w' ∧ w'.cell? ⟨B1, 40, none⟩ = some (.slice (some ⟨g, o, none⟩) m c) ∧ w'.cell? ⟨B2, 40, none⟩ = some (.slice (some ⟨g', o', none⟩) m c') ∧ w'.rangeAt g (o + k * 41) (x.row ax cx) ∧ w'.rangeAt g' (o' + k * 41) (y.row ay cy))) (by kernel_rfl) ?_ (fun hHeld => ?_)
          · (try dsimp only); (first | assumption | exact HK.out _ (on_drew (Below.refl _ _)) | exact HK.out _ Hkn.out)
          refine wpAnyH_take (i := 0) (v := ?_) rfl (by kernel_rfl) (by kernel_rfl) (by kernel_rfl) (fun _ _ _ h => h) (Or.inl ⟨by rfl, ?_⟩) (by assumption) ?_
          rotate_left
          · intro w hSw; (try dsimp only at hSw); go_simp; (try with_reducible rfl)
          (try simp only [List.getElem_toArray, List.getElem_cons_succ, List.getElem_cons_zero, Act.put, List.setIfInBounds_toArray, List.set_cons_zero, List.set_cons_succ])
          refine wpAnyH_take (i := 1) (v := ?_) rfl (by kernel_rfl) (by kernel_rfl) (by kernel_rfl) (fun _ _ _ h => h) (Or.inl ⟨by rfl, ?_⟩) (by assumption) ?_
          rotate_left
          · intro w hSw; (try dsimp only at hSw); go_simp; (try with_reducible rfl)
          (try simp only [List.getElem_toArray, List.getElem_cons_succ, List.getElem_cons_zero, Act.put, List.setIfInBounds_toArray, List.set_cons_zero, List.set_cons_succ])
          refine wpAnyH_take (i := 2) (v := ?_) rfl (by kernel_rfl) (by kernel_rfl) (by kernel_rfl) (fun _ _ _ h => h) (Or.inl ⟨by rfl, ?_⟩) (by assumption) ?_
          rotate_left
          · intro w hSw; (try dsimp only at hSw); go_simp; (try with_reducible rfl)
          (try simp only [List.getElem_toArray, List.getElem_cons_succ, List.getElem_cons_zero, Act.put, List.setIfInBounds_toArray, List.set_cons_zero, List.set_cons_succ])
          refine wpAnyH_take (i := 3) (v := ?_) rfl (by kernel_rfl) (by kernel_rfl) (by kernel_rfl) (fun _ _ _ h => h) (Or.inl ⟨by rfl, ?_⟩) (by assumption) ?_
          rotate_left
          · intro w hSw; (try dsimp only at hSw); go_simp; (try with_reducible rfl)
          (try simp only [List.getElem_toArray, List.getElem_cons_succ, List.getElem_cons_zero, Act.put, List.setIfInBounds_toArray, List.set_cons_zero, List.set_cons_succ])
          refine' wpAnyH_take (i := 4) (v := _) rfl (by kernel_rfl) (by kernel_rfl) (by kernel_rfl) (fun _ _ _ h => h) (yieldsIf_load_mid (by rfl) _ _ rfl _ _ rfl _ _ ?hSA4 ?huA4 ?hdA4 ?hiA4) (by assumption) ?restA1
          case hSA4 => (intro w hSw; (try dsimp only at hSw); go_split_ands; assumption)
          case huA4 => assumption
          case hdA4 => rfl
          case hiA4 => first | assumption | (simp only [*]; done)
          (try simp only [List.getElem_toArray, List.getElem_cons_succ, List.getElem_cons_zero, Act.put, List.setIfInBounds_toArray, List.set_cons_zero, List.set_cons_succ])
          refine wpAnyH_take (i := 5) (v := ?_) rfl (by kernel_rfl) (by kernel_rfl) (by kernel_rfl) (fun _ _ _ h => h) (Or.inl ⟨by rfl, ?_⟩) (by assumption) ?_
          rotate_left
          · intro w hSw; (try dsimp only at hSw); go_simp; (try with_reducible rfl)
          (try simp only [List.getElem_toArray, List.getElem_cons_succ, List.getElem_cons_zero, Act.put, List.setIfInBounds_toArray, List.set_cons_zero, List.set_cons_succ])
          refine wpAnyH_take (i := 6) (v := ?_) rfl (by kernel_rfl) (by kernel_rfl) (by kernel_rfl) (fun _ _ _ h => h) (Or.inl ⟨by rfl, ?_⟩) (by assumption) ?_
          rotate_left
          · intro w hSw; (try dsimp only at hSw); go_simp; (try with_reducible rfl)
          (try simp only [List.getElem_toArray, List.getElem_cons_succ, List.getElem_cons_zero, Act.put, List.setIfInBounds_toArray, List.set_cons_zero, List.set_cons_succ])
          refine wpAnyH_take (i := 7) (v := ?_) rfl (by kernel_rfl) (by kernel_rfl) (by kernel_rfl) (fun _ _ _ h => h) (Or.inl ⟨by rfl, ?_⟩) (by assumption) ?_
          rotate_left
          · intro w hSw; (try dsimp only at hSw); go_simp; (try with_reducible rfl)
          (try simp only [List.getElem_toArray, List.getElem_cons_succ, List.getElem_cons_zero, Act.put, List.setIfInBounds_toArray, List.set_cons_zero, List.set_cons_succ])
          refine wpAnyH_take (i := 8) (v := ?_) rfl (by kernel_rfl) (by kernel_rfl) (by kernel_rfl) (fun _ _ _ h => h) (Or.inl ⟨by rfl, ?_⟩) (by assumption) ?_
          rotate_left
          · intro w hSw; (try dsimp only at hSw); go_simp; (try with_reducible rfl)
          (try simp only [List.getElem_toArray, List.getElem_cons_succ, List.getElem_cons_zero, Act.put, List.setIfInBounds_toArray, List.set_cons_zero, List.set_cons_succ])
          refine' wpAnyH_take (i := 9) (v := _) rfl (by kernel_rfl) (by kernel_rfl) (by kernel_rfl) (fun _ _ _ h => h) (yieldsIf_load_mid (by rfl) _ _ rfl _ _ rfl _ _ ?hSA9 ?huA9 ?hdA9 ?hiA9) (by assumption) ?restA2
          case hSA9 => (intro w hSw; (try dsimp only at hSw); go_split_ands; assumption)
          case huA9 => assumption
          case hdA9 => rfl
          case hiA9 => first | assumption | (simp only [*]; done)
          (try simp only [List.getElem_toArray, List.getElem_cons_succ, List.getElem_cons_zero, Act.put, List.setIfInBounds_toArray, List.set_cons_zero, List.set_cons_succ])
          refine wpAnyH_ready (rs := [10]) (by kernel_rfl) (by simp) ?_
          refine AllReadyH.cons rfl (fun K hK => ?_) ?_
          rotate_left
          · exact AllReadyH.nil
          go_simp
          refine Hcall.out.mono ?_; rintro e wn ⟨rfl, hbn⟩; have Hkn := Lib.hid (below_on (on_drew (Below.refl wr.heap.size wr)) hbn); clear hbn
          (try go_wp2_with fail)
          refine hK.out _ _ ?_ (fun hHeld => ?_)
          · (try dsimp only); (first | assumption | exact HK.out _ (on_drew (Below.refl _ _)) | exact HK.out _ Hkn.out)
          clear hK K
          (try simp only [List.getElem_toArray, List.getElem_cons_succ, List.getElem_cons_zero, Act.put, List.setIfInBounds_toArray, List.set_cons_zero, List.set_cons_succ])
          refine wpAnyH_take (i := 11) (v := ?_) rfl (by kernel_rfl) (by kernel_rfl) (by kernel_rfl) (fun _ _ _ h => h) (Or.inl ⟨by rfl, ?_⟩) (by assumption) ?_
          rotate_left
          · intro w hSw; (try dsimp only at hSw); go_simp; (try with_reducible rfl)
          (try simp only [List.getElem_toArray, List.getElem_cons_succ, List.getElem_cons_zero, Act.put, List.setIfInBounds_toArray, List.set_cons_zero, List.set_cons_succ])
          refine wpAnyH_done (by kernel_rfl) ?_ _
          refine NoPanic.normal ?_
          have Htw5 := Lib.hid (Htw.out.next Hkn.out)
          clear hHeld f40 g40 inf41 inf41' und41 HK Hkn Hcall
          cases lb with
          | false =>
            have Hf := Lib.hid (like_kid Hxy.out.1 Hxy.out.2 Hlb.out.symm)
            go_wp2_with fail
            go_ret
            exact ⟨ret_b Hf.out.symm, Htw5.out.2.2⟩
          | true =>
            go_wp2_with fail
            go_roundw
            case rel =>
              refine ⟨k + 1, hlt, by go_num, Htw5.out, fun i a1 b1 hi ha hb => ?_⟩
              by_cases hik : i = k
              · subst hik
                rw [Hxy.out.1] at ha
                rw [Hxy.out.2] at hb
                injection ha with ha
                injection hb with hb
                rw [← ha, ← hb]; exact Hlb.out.symm
              · exact Hall.out i a1 b1 (by omega) ha hb
            case measure => simp [intOf]; omega
        · obtain rfl : k = m := by omega
          have Hf := Lib.hid (like_all (n := n) (u := u) Hnm.out Hvu.out (by rw [← Hm.out, ← Hl.out]) (fun i a b ha hb => Hall.out i a b (by rw [Hm.out]; exact (List.getElem?_eq_some_iff.1 ha).1) ha hb))
          clear hlt
          go_wp2
          go_ret
          exact ⟨ret_b Hf.out.symm, Htw.out.2.2⟩
    · have e2 : (u.v.kind != 3) = true := by rw [bne_iff_ne]; exact hk3
      obtain ⟨vv, hvv⟩ : ∃ vv : Vl, vv = ⟨n.v.kind, 8, n.v.size, n.v.sum⟩ := ⟨_, rfl⟩
      have Hop := Lib.hid (show openV true n.v u.v = vv by rw [hvv]; unfold openV; rw [if_pos ⟨rfl, hm8, hk3⟩])
      have b1 : w1.cell? ⟨B3, 1, none⟩ = some (.int .i64 n.v.mode) := by have h := (vl_at (rangeAt_row Hr1.out)).2.1; simpa using h
      have z1 := frozen_of_row w1 B3 1 _ _ Hr1.out
      clear hm8 hk3
      have hrt := heap_setCell_same w1 B3 1 _ _ (.int .i64 8) Hr1.out
      rw [cells_set1, ← hvv] at hrt
      have hut : Upd (fun b => b = B3) w1 (w1.setCell ⟨B3, 1, none⟩ (.int .i64 8)) := (Upd.refl _ w1).setCell ⟨B3, 1, none⟩ (.int .i64 8) (fun _ => rfl)
      have Hrt := Lib.hid hrt
      have HTt : Hid (Two w B1 B2 (n.row a c) (u.row a' c') (w1.setCell ⟨B3, 1, none⟩ (.int .i64 8))) := ⟨hut.at_ HT1.out.1 Hne.out.1, hut.at_ HT1.out.2.1 Hne.out.2.1, HT1.out.2.2.upd (Nat.le_refl _) hut (fun b hb => by have hb' : b = B3 := hb; have := Hne.out.2.2; omega)⟩
      have q1 := Hne.out.1
      have q2 := Hne.out.2.1
      clear hvv hrt hut Hr1 l35 s35 o35
      -- wt: the value vv lies in B3
      have Hvl := Lib.hid (show vv.cells.length = 35 from vv.cells_length (by rw [← Hop.out]; exact openV_wf Hn.out.vwf))
      have hsum : vv.sum.length = 32 := by have := openV_wf (o := true) (u := u.v) Hn.out.vwf; rw [Hop.out] at this; exact this.1
      have heq : ∀ w, (Op.equalIn 10000 24 (.agg vv.cells.toArray) (.agg u.v.cells.toArray)).run Try.prog w = .ok (decide (vv = u.v)) w := fun w => eq_value vv u.v hsum Hu.out.vwf.1 w
      have Rb := Lib.hid (rangeAt_row Hrt.out)
      obtain ⟨n1, _, _, f40⟩ := nrow_at (o := 0) Hn.out.vwf (rangeAt_row HT1.out.1)
      obtain ⟨n2, _, _, g40⟩ := nrow_at (o := 0) Hu.out.vwf (rangeAt_row HT1.out.2.1)
      have v2 := (nrow_at (o := 0) Hu.out.vwf (rangeAt_row HTt.out.2.1)).2.1
      simp only [Nat.zero_add] at n1 n2 v2 f40 g40
      rw [← Hm.out] at f40
      rw [← Hl.out] at g40
      have V2 := Lib.hid v2
      clear v2 hsum
      by_cases hnm : n.name = u.name
      rotate_left
      · have hb1 : (n.name.toList == u.name.toList) = false := names_ne hnm
        have Hr := Lib.hid (like_names hnm)
        clear hnm heq
        go_wp2_with (first | (refine wpList_load_midg (by rfl) 24 (.tmp 5) rfl B3 0 rfl vv.cells _ Rb.out Try.underlying24 rfl (by rw [Hvl.out]; kernel_rfl) ?_) | (refine wpList_load_midg (by rfl) 24 (.tmp 27) rfl B2 1 rfl u.v.cells _ V2.out Try.underlying24 rfl (by rw [k35.out]; kernel_rfl) ?_))
        go_ret
        exact ⟨ret_b Hr.out.symm, HTt.out.2.2⟩
      rw [← hnm] at n2
      have Hnm := Lib.hid hnm
      clear hnm
      by_cases hne : vv = u.v
      rotate_left
      · have hd : decide (vv = u.v) = false := decide_eq_false hne
        have Hr := Lib.hid (like_val (n := n) (u := u) (by rw [Hop.out]; exact hne))
        rw [hd] at heq
        clear hne hd
        go_wp2_with (first | (refine wpList_load_midg (by rfl) 24 (.tmp 5) rfl B3 0 rfl vv.cells _ Rb.out Try.underlying24 rfl (by rw [Hvl.out]; kernel_rfl) ?_) | (refine wpList_load_midg (by rfl) 24 (.tmp 27) rfl B2 1 rfl u.v.cells _ V2.out Try.underlying24 rfl (by rw [k35.out]; kernel_rfl) ?_))
        go_ret
        exact ⟨ret_b Hr.out.symm, HTt.out.2.2⟩
      have hd : decide (vv = u.v) = true := decide_eq_true hne
      rw [hd] at heq
      have Hvu := Lib.hid (show openV true n.v u.v = u.v by rw [Hop.out]; exact hne)
      clear hd hne
      by_cases c3 : m = l
      rotate_left
      · have Hr := Lib.hid (like_len (n := n) (u := u) (by rw [← Hm.out, ← Hl.out]; exact c3))
        have c4 : ((m : Int) != (l : Int)) = true := by rw [bne_iff_ne]; omega
        go_wp2_with (first | (refine wpList_load_midg (by rfl) 24 (.tmp 5) rfl B3 0 rfl vv.cells _ Rb.out Try.underlying24 rfl (by rw [Hvl.out]; kernel_rfl) ?_) | (refine wpList_load_midg (by rfl) 24 (.tmp 27) rfl B2 1 rfl u.v.cells _ V2.out Try.underlying24 rfl (by rw [k35.out]; kernel_rfl) ?_))
        go_ret
        exact ⟨ret_b Hr.out.symm, HTt.out.2.2⟩
      subst c3
      go_wp2_with (first | (refine wpList_load_midg (by rfl) 24 (.tmp 5) rfl B3 0 rfl vv.cells _ Rb.out Try.underlying24 rfl (by rw [Hvl.out]; kernel_rfl) ?_) | (refine wpList_load_midg (by rfl) 24 (.tmp 27) rfl B2 1 rfl u.v.cells _ V2.out Try.underlying24 rfl (by rw [k35.out]; kernel_rfl) ?_))
      clear n1 n2 f40 g40 V2 Rb heq Hvl Hop HT1 d1 d2
      go_loopw [6] (fun i wr => ∃ k : Nat, k ≤ m ∧ i = .int .i64 k ∧ Two w B1 B2 (n.row a c) (u.row a' c') wr ∧ (∀ (i : Nat) (a b : Nd), i < k → n.kids[i]? = some a → u.kids[i]? = some b → likeR a b = true)) (fun i _ => m - (intOf i).toNat)
      case atStart => exact ⟨0, Nat.zero_le _, rfl, HTt.out, fun i a b h => absurd h (Nat.not_lt_zero _)⟩
      case round =>
        obtain ⟨k, hk, rfl, htw, hall⟩ := hrel
        have Htw := Lib.hid htw
        have Hall := Lib.hid hall
        obtain ⟨_, _, _, f40⟩ := nrow_at (o := 0) Hn.out.vwf (rangeAt_row htw.1)
        obtain ⟨_, _, _, g40⟩ := nrow_at (o := 0) Hu.out.vwf (rangeAt_row htw.2.1)
        simp only [Nat.zero_add] at f40 g40
        rw [← Hm.out] at f40
        rw [← Hl.out] at g40
        clear htw hall
        by_cases hlt : k < m
        · have hd : ∃ e, d = e + 1 := by
            cases d with
            | zero => exfalso; have h0 : n.kids = [] := Hn.out.kids; have := Hm.out; rw [h0] at this; simp at this; omega
            | succ e => exact ⟨e, rfl⟩
          obtain ⟨d', hd⟩ := hd
          have ihe := Ih.out d' hd
          have hkn := Hn.out.kids
          have hkn2 := Hu.out.kids
          rw [hd] at hkn hkn2
          have hk1 : k < n.kids.length := by rw [← Hm.out]; exact hlt
          have hk2 : k < u.kids.length := by rw [← Hl.out]; exact hlt
          obtain ⟨g, o, ax, cx, rfl, hF, hr, hni⟩ := (hkn.below (Htw.out.2.2)).at hk1
          obtain ⟨g', o', ay, cy, rfl, hF2, hr2, hni2⟩ := (hkn2.below (Htw.out.2.2)).at hk2
          obtain ⟨x, hx⟩ : ∃ x, x = n.kids[k] := ⟨_, rfl⟩
          obtain ⟨y, hy⟩ : ∃ y, y = u.kids[k] := ⟨_, rfl⟩
          have Hxy := Lib.hid (show n.kids[k]? = some x ∧ u.kids[k]? = some y from ⟨by rw [hx]; exact List.getElem?_eq_getElem hk1, by rw [hy]; exact List.getElem?_eq_getElem hk2⟩)
          rw [← hx] at hr hni
          rw [← hy] at hr2 hni2
          have Hr := Lib.hid hr
          have Hr2 := Lib.hid hr2
          have i1 : (0 : Int) ≤ (k : Int) := by omega
          have i2 : (k : Int) < (m : Int) := by omega
          have hcall := ihe F G wr.drew x y ax cx ay cy (hni.below (on_drew (Below.refl _ _))) (hni2.below (on_drew (Below.refl _ _)))
          obtain ⟨lb, hlb⟩ : ∃ lb, lb = likeR x y := ⟨_, rfl⟩
          rw [← hlb] at hcall
          have Hlb := Lib.hid hlb
          have Hcall := Lib.hid hcall
          have inf41 : (Try.prog.info? 30).map (·.size) = some (x.row ax cx).length := by rw [row_len hni.vwf]; kernel_rfl
          have inf41' : (Try.prog.info? 30).map (·.size) = some (y.row ay cy).length := by rw [row_len hni2.vwf]; kernel_rfl
          have und41 := Try.underlying30
          have HK : Hid (∀ w', Below wr.heap.size wr w' → Below wr.heap.size wr w' ∧ w'.cell? ⟨B1, 40, none⟩ = some (.slice (some ⟨g, o, none⟩) m c) ∧ w'.cell? ⟨B2, 40, none⟩ = some (.slice (some ⟨g', o', none⟩) m c') ∧ w'.rangeAt g (o + k * 41) (x.row ax cx) ∧ w'.rangeAt g' (o' + k * 41) (y.row ay cy)) := fun w' hb => by
            have hup : Upd (fun _ => False) wr w' := Upd.below hb _
            exact ⟨hb, hup.cell f40 id, hup.cell g40 id, rangeAt_kept Hr.out hup id, rangeAt_kept Hr2.out hup id⟩
          clear hr hr2 hni hni2 hkn hkn2 ihe hd hx hy hk1 hk2 hcall hlb
          go_wp2_with fail
          refine wp_region_noPanic ?_
          refine wp_region_held_drew (S := (fun w' => Below wr.heap.size wr w' ∧ w'.cell? ⟨B1, 40, none⟩ = some (.slice (some ⟨g, o, none⟩) m c) ∧ w'.cell? ⟨B2, 40, none⟩ = some (.slice (some ⟨g', o', none⟩) m c') ∧ w'.rangeAt g (o + k * 41) (x.row ax cx) ∧ w'.rangeAt g' (o' + k * 41) (y.row ay cy))) (by kernel_rfl) ?_ (fun hHeld => ?_)
          · (try dsimp only); (first | assumption | exact HK.out _ (on_drew (Below.refl _ _)) | exact HK.out _ Hkn.out)
          refine wpAnyH_take (i := 0) (v := ?_) rfl (by kernel_rfl) (by kernel_rfl) (by kernel_rfl) (fun _ _ _ h => h) (Or.inl ⟨by rfl, ?_⟩) (by assumption) ?_
          rotate_left
          · intro w hSw; (try dsimp only at hSw); go_simp; (try with_reducible rfl)
          (try simp only [List.getElem_toArray, List.getElem_cons_succ, List.getElem_cons_zero, Act.put, List.setIfInBounds_toArray, List.set_cons_zero, List.set_cons_succ])
          refine wpAnyH_take (i := 1) (v := ?_) rfl (by kernel_rfl) (by kernel_rfl) (by kernel_rfl) (fun _ _ _ h => h) (Or.inl ⟨by rfl, ?_⟩) (by assumption) ?_
          rotate_left
          · intro w hSw; (try dsimp only at hSw); go_simp; (try with_reducible rfl)
          (try simp only [List.getElem_toArray, List.getElem_cons_succ, List.getElem_cons_zero, Act.put, List.setIfInBounds_toArray, List.set_cons_zero, List.set_cons_succ])
          refine wpAnyH_take (i := 2) (v := ?_) rfl (by kernel_rfl) (by kernel_rfl) (by kernel_rfl) (fun _ _ _ h => h) (Or.inl ⟨by rfl, ?_⟩) (by assumption) ?_
          rotate_left
          · intro w hSw; (try dsimp only at hSw); go_simp; (try with_reducible rfl)
          (try simp only [List.getElem_toArray, List.getElem_cons_succ, List.getElem_cons_zero, Act.put, List.setIfInBounds_toArray, List.set_cons_zero, List.set_cons_succ])
          refine wpAnyH_take (i := 3) (v := ?_) rfl (by kernel_rfl) (by kernel_rfl) (by kernel_rfl) (fun _ _ _ h => h) (Or.inl ⟨by rfl, ?_⟩) (by assumption) ?_
          rotate_left
          · intro w hSw; (try dsimp only at hSw); go_simp; (try with_reducible rfl)
          (try simp only [List.getElem_toArray, List.getElem_cons_succ, List.getElem_cons_zero, Act.put, List.setIfInBounds_toArray, List.set_cons_zero, List.set_cons_succ])
          refine' wpAnyH_take (i := 4) (v := _) rfl (by kernel_rfl) (by kernel_rfl) (by kernel_rfl) (fun _ _ _ h => h) (yieldsIf_load_mid (by rfl) _ _ rfl _ _ rfl _ _ ?hSB4 ?huB4 ?hdB4 ?hiB4) (by assumption) ?restB1
          case hSB4 => (intro w hSw; (try dsimp only at hSw); go_split_ands; assumption)
          case huB4 => assumption
          case hdB4 => rfl
          case hiB4 => first | assumption | (simp only [*]; done)
          (try simp only [List.getElem_toArray, List.getElem_cons_succ, List.getElem_cons_zero, Act.put, List.setIfInBounds_toArray, List.set_cons_zero, List.set_cons_succ])
          refine wpAnyH_take (i := 5) (v := ?_) rfl (by kernel_rfl) (by kernel_rfl) (by kernel_rfl) (fun _ _ _ h => h) (Or.inl ⟨by rfl, ?_⟩) (by assumption) ?_
          rotate_left
          · intro w hSw; (try dsimp only at hSw); go_simp; (try with_reducible rfl)
          (try simp only [List.getElem_toArray, List.getElem_cons_succ, List.getElem_cons_zero, Act.put, List.setIfInBounds_toArray, List.set_cons_zero, List.set_cons_succ])
          refine wpAnyH_take (i := 6) (v := ?_) rfl (by kernel_rfl) (by kernel_rfl) (by kernel_rfl) (fun _ _ _ h => h) (Or.inl ⟨by rfl, ?_⟩) (by assumption) ?_
          rotate_left
          · intro w hSw; (try dsimp only at hSw); go_simp; (try with_reducible rfl)
          (try simp only [List.getElem_toArray, List.getElem_cons_succ, List.getElem_cons_zero, Act.put, List.setIfInBounds_toArray, List.set_cons_zero, List.set_cons_succ])
          refine wpAnyH_take (i := 7) (v := ?_) rfl (by kernel_rfl) (by kernel_rfl) (by kernel_rfl) (fun _ _ _ h => h) (Or.inl ⟨by rfl, ?_⟩) (by assumption) ?_
          rotate_left
          · intro w hSw; (try dsimp only at hSw); go_simp; (try with_reducible rfl)
          (try simp only [List.getElem_toArray, List.getElem_cons_succ, List.getElem_cons_zero, Act.put, List.setIfInBounds_toArray, List.set_cons_zero, List.set_cons_succ])
          refine wpAnyH_take (i := 8) (v := ?_) rfl (by kernel_rfl) (by kernel_rfl) (by kernel_rfl) (fun _ _ _ h => h) (Or.inl ⟨by rfl, ?_⟩) (by assumption) ?_
          rotate_left
          · intro w hSw; (try dsimp only at hSw); go_simp; (try with_reducible rfl)
          (try simp only [List.getElem_toArray, List.getElem_cons_succ, List.getElem_cons_zero, Act.put, List.setIfInBounds_toArray, List.set_cons_zero, List.set_cons_succ])
          refine' wpAnyH_take (i := 9) (v := _) rfl (by kernel_rfl) (by kernel_rfl) (by kernel_rfl) (fun _ _ _ h => h) (yieldsIf_load_mid (by rfl) _ _ rfl _ _ rfl _ _ ?hSB9 ?huB9 ?hdB9 ?hiB9) (by assumption) ?restB2
          case hSB9 => (intro w hSw; (try dsimp only at hSw); go_split_ands; assumption)
          case huB9 => assumption
          case hdB9 => rfl
          case hiB9 => first | assumption | (simp only [*]; done)
          (try simp only [List.getElem_toArray, List.getElem_cons_succ, List.getElem_cons_zero, Act.put, List.setIfInBounds_toArray, List.set_cons_zero, List.set_cons_succ])
          refine wpAnyH_ready (rs := [10]) (by kernel_rfl) (by simp) ?_
          refine AllReadyH.cons rfl (fun K hK => ?_) ?_
          rotate_left
          · exact AllReadyH.nil
          go_simp
          refine Hcall.out.mono ?_; rintro e wn ⟨rfl, hbn⟩; have Hkn := Lib.hid (below_on (on_drew (Below.refl wr.heap.size wr)) hbn); clear hbn
          (try go_wp2_with fail)
          refine hK.out _ _ ?_ (fun hHeld => ?_)
          · (try dsimp only); (first | assumption | exact HK.out _ (on_drew (Below.refl _ _)) | exact HK.out _ Hkn.out)
          clear hK K
          (try simp only [List.getElem_toArray, List.getElem_cons_succ, List.getElem_cons_zero, Act.put, List.setIfInBounds_toArray, List.set_cons_zero, List.set_cons_succ])
          refine wpAnyH_take (i := 11) (v := ?_) rfl (by kernel_rfl) (by kernel_rfl) (by kernel_rfl) (fun _ _ _ h => h) (Or.inl ⟨by rfl, ?_⟩) (by assumption) ?_
          rotate_left
          · intro w hSw; (try dsimp only at hSw); go_simp; (try with_reducible rfl)
          (try simp only [List.getElem_toArray, List.getElem_cons_succ, List.getElem_cons_zero, Act.put, List.setIfInBounds_toArray, List.set_cons_zero, List.set_cons_succ])
          refine wpAnyH_done (by kernel_rfl) ?_ _
          refine NoPanic.normal ?_
          have Htw5 := Lib.hid (Htw.out.next Hkn.out)
          clear hHeld f40 g40 inf41 inf41' und41 HK Hkn Hcall
          cases lb with
          | false =>
            have Hf := Lib.hid (like_kid Hxy.out.1 Hxy.out.2 Hlb.out.symm)
            go_wp2_with fail
            go_ret
            exact ⟨ret_b Hf.out.symm, Htw5.out.2.2⟩
          | true =>
            go_wp2_with fail
            go_roundw
            case rel =>
              refine ⟨k + 1, hlt, by go_num, Htw5.out, fun i a1 b1 hi ha hb => ?_⟩
              by_cases hik : i = k
              · subst hik
                rw [Hxy.out.1] at ha
                rw [Hxy.out.2] at hb
                injection ha with ha
                injection hb with hb
                rw [← ha, ← hb]; exact Hlb.out.symm
              · exact Hall.out i a1 b1 (by omega) ha hb
            case measure => simp [intOf]; omega
        · obtain rfl : k = m := by omega
          have Hf := Lib.hid (like_all (n := n) (u := u) Hnm.out Hvu.out (by rw [← Hm.out, ← Hl.out]) (fun i a b ha hb => Hall.out i a b (by rw [Hm.out]; exact (List.getElem?_eq_some_iff.1 ha).1) ha hb))
          clear hlt
          go_wp2
          go_ret
          exact ⟨ret_b Hf.out.symm, Htw.out.2.2⟩
  · have e1 : (u.v.mode == 8) = false := by rw [beq_eq_false_iff_ne]; exact hm8
    have Hop := Lib.hid (show openV true n.v u.v = n.v by unfold openV; rw [if_neg (by simp [hm8])])
    clear hm8
    obtain ⟨vv, hvv⟩ : ∃ vv, vv = n.v := ⟨_, rfl⟩
    have hrt := Hr1.out
    have hop := Hop.out
    rw [← hvv] at hrt
    rw [show (openV true n.v u.v = n.v) = (openV true n.v u.v = vv) by rw [hvv]] at hop
    replace Hop := Lib.hid hop
    have Hrt := Lib.hid hrt
    have HTt := Lib.hid HT1.out
    clear hvv hrt hop Hr1 l35 s35 o35
    -- wt: the value vv lies in B3
    have Hvl := Lib.hid (show vv.cells.length = 35 from vv.cells_length (by rw [← Hop.out]; exact openV_wf Hn.out.vwf))
    have hsum : vv.sum.length = 32 := by have := openV_wf (o := true) (u := u.v) Hn.out.vwf; rw [Hop.out] at this; exact this.1
    have heq : ∀ w, (Op.equalIn 10000 24 (.agg vv.cells.toArray) (.agg u.v.cells.toArray)).run Try.prog w = .ok (decide (vv = u.v)) w := fun w => eq_value vv u.v hsum Hu.out.vwf.1 w
    have Rb := Lib.hid (rangeAt_row Hrt.out)
    obtain ⟨n1, _, _, f40⟩ := nrow_at (o := 0) Hn.out.vwf (rangeAt_row HT1.out.1)
    obtain ⟨n2, _, _, g40⟩ := nrow_at (o := 0) Hu.out.vwf (rangeAt_row HT1.out.2.1)
    have v2 := (nrow_at (o := 0) Hu.out.vwf (rangeAt_row HTt.out.2.1)).2.1
    simp only [Nat.zero_add] at n1 n2 v2 f40 g40
    rw [← Hm.out] at f40
    rw [← Hl.out] at g40
    have V2 := Lib.hid v2
    clear v2 hsum
    by_cases hnm : n.name = u.name
    rotate_left
    · have hb1 : (n.name.toList == u.name.toList) = false := names_ne hnm
      have Hr := Lib.hid (like_names hnm)
      clear hnm heq
      go_wp2_with (first | (refine wpList_load_midg (by rfl) 24 (.tmp 5) rfl B3 0 rfl vv.cells _ Rb.out Try.underlying24 rfl (by rw [Hvl.out]; kernel_rfl) ?_) | (refine wpList_load_midg (by rfl) 24 (.tmp 27) rfl B2 1 rfl u.v.cells _ V2.out Try.underlying24 rfl (by rw [k35.out]; kernel_rfl) ?_))
      go_ret
      exact ⟨ret_b Hr.out.symm, HTt.out.2.2⟩
    rw [← hnm] at n2
    have Hnm := Lib.hid hnm
    clear hnm
    by_cases hne : vv = u.v
    rotate_left
    · have hd : decide (vv = u.v) = false := decide_eq_false hne
      have Hr := Lib.hid (like_val (n := n) (u := u) (by rw [Hop.out]; exact hne))
      rw [hd] at heq
      clear hne hd
      go_wp2_with (first | (refine wpList_load_midg (by rfl) 24 (.tmp 5) rfl B3 0 rfl vv.cells _ Rb.out Try.underlying24 rfl (by rw [Hvl.out]; kernel_rfl) ?_) | (refine wpList_load_midg (by rfl) 24 (.tmp 27) rfl B2 1 rfl u.v.cells _ V2.out Try.underlying24 rfl (by rw [k35.out]; kernel_rfl) ?_))
      go_ret
      exact ⟨ret_b Hr.out.symm, HTt.out.2.2⟩
    have hd : decide (vv = u.v) = true := decide_eq_true hne
    rw [hd] at heq
    have Hvu := Lib.hid (show openV true n.v u.v = u.v by rw [Hop.out]; exact hne)
    clear hd hne
    by_cases c3 : m = l
    rotate_left
    · have Hr := Lib.hid (like_len (n := n) (u := u) (by rw [← Hm.out, ← Hl.out]; exact c3))
      have c4 : ((m : Int) != (l : Int)) = true := by rw [bne_iff_ne]; omega
      go_wp2_with (first | (refine wpList_load_midg (by rfl) 24 (.tmp 5) rfl B3 0 rfl vv.cells _ Rb.out Try.underlying24 rfl (by rw [Hvl.out]; kernel_rfl) ?_) | (refine wpList_load_midg (by rfl) 24 (.tmp 27) rfl B2 1 rfl u.v.cells _ V2.out Try.underlying24 rfl (by rw [k35.out]; kernel_rfl) ?_))
      go_ret
      exact ⟨ret_b Hr.out.symm, HTt.out.2.2⟩
    subst c3
    go_wp2_with (first | (refine wpList_load_midg (by rfl) 24 (.tmp 5) rfl B3 0 rfl vv.cells _ Rb.out Try.underlying24 rfl (by rw [Hvl.out]; kernel_rfl) ?_) | (refine wpList_load_midg (by rfl) 24 (.tmp 27) rfl B2 1 rfl u.v.cells _ V2.out Try.underlying24 rfl (by rw [k35.out]; kernel_rfl) ?_))
    clear n1 n2 f40 g40 V2 Rb heq Hvl Hop HT1 d1 d2
    go_loopw [6] (fun i wr => ∃ k : Nat, k ≤ m ∧ i = .int .i64 k ∧ Two w B1 B2 (n.row a c) (u.row a' c') wr ∧ (∀ (i : Nat) (a b : Nd), i < k → n.kids[i]? = some a → u.kids[i]? = some b → likeR a b = true)) (fun i _ => m - (intOf i).toNat)
    case atStart => exact ⟨0, Nat.zero_le _, rfl, HTt.out, fun i a b h => absurd h (Nat.not_lt_zero _)⟩
    case round =>
      obtain ⟨k, hk, rfl, htw, hall⟩ := hrel
      have Htw := Lib.hid htw
      have Hall := Lib.hid hall
      obtain ⟨_, _, _, f40⟩ := nrow_at (o := 0) Hn.out.vwf (rangeAt_row htw.1)
      obtain ⟨_, _, _, g40⟩ := nrow_at (o := 0) Hu.out.vwf (rangeAt_row htw.2.1)
      simp only [Nat.zero_add] at f40 g40
      rw [← Hm.out] at f40
      rw [← Hl.out] at g40
      clear htw hall
      by_cases hlt : k < m
      · have hd : ∃ e, d = e + 1 := by
          cases d with
          | zero => exfalso; have h0 : n.kids = [] := Hn.out.kids; have := Hm.out; rw [h0] at this; simp at this; omega
          | succ e => exact ⟨e, rfl⟩
        obtain ⟨d', hd⟩ := hd
        have ihe := Ih.out d' hd
        have hkn := Hn.out.kids
        have hkn2 := Hu.out.kids
        rw [hd] at hkn hkn2
        have hk1 : k < n.kids.length := by rw [← Hm.out]; exact hlt
        have hk2 : k < u.kids.length := by rw [← Hl.out]; exact hlt
        obtain ⟨g, o, ax, cx, rfl, hF, hr, hni⟩ := (hkn.below (Htw.out.2.2)).at hk1
        obtain ⟨g', o', ay, cy, rfl, hF2, hr2, hni2⟩ := (hkn2.below (Htw.out.2.2)).at hk2
        obtain ⟨x, hx⟩ : ∃ x, x = n.kids[k] := ⟨_, rfl⟩
        obtain ⟨y, hy⟩ : ∃ y, y = u.kids[k] := ⟨_, rfl⟩
        have Hxy := Lib.hid (show n.kids[k]? = some x ∧ u.kids[k]? = some y from ⟨by rw [hx]; exact List.getElem?_eq_getElem hk1, by rw [hy]; exact List.getElem?_eq_getElem hk2⟩)
        rw [← hx] at hr hni
        rw [← hy] at hr2 hni2
        have Hr := Lib.hid hr
        have Hr2 := Lib.hid hr2
        have i1 : (0 : Int) ≤ (k : Int) := by omega
        have i2 : (k : Int) < (m : Int) := by omega
        have hcall := ihe F G wr.drew x y ax cx ay cy (hni.below (on_drew (Below.refl _ _))) (hni2.below (on_drew (Below.refl _ _)))
        obtain ⟨lb, hlb⟩ : ∃ lb, lb = likeR x y := ⟨_, rfl⟩
        rw [← hlb] at hcall
        have Hlb := Lib.hid hlb
        have Hcall := Lib.hid hcall
        have inf41 : (Try.prog.info? 30).map (·.size) = some (x.row ax cx).length := by rw [row_len hni.vwf]; kernel_rfl
        have inf41' : (Try.prog.info? 30).map (·.size) = some (y.row ay cy).length := by rw [row_len hni2.vwf]; kernel_rfl
        have und41 := Try.underlying30
        have HK : Hid (∀ w', Below wr.heap.size wr w' → Below wr.heap.size wr w' ∧ w'.cell? ⟨B1, 40, none⟩ = some (.slice (some ⟨g, o, none⟩) m c) ∧ w'.cell? ⟨B2, 40, none⟩ = some (.slice (some ⟨g', o', none⟩) m c') ∧ w'.rangeAt g (o + k * 41) (x.row ax cx) ∧ w'.rangeAt g' (o' + k * 41) (y.row ay cy)) := fun w' hb => by
          have hup : Upd (fun _ => False) wr w' := Upd.below hb _
          exact ⟨hb, hup.cell f40 id, hup.cell g40 id, rangeAt_kept Hr.out hup id, rangeAt_kept Hr2.out hup id⟩
        clear hr hr2 hni hni2 hkn hkn2 ihe hd hx hy hk1 hk2 hcall hlb
        go_wp2_with fail
        refine wp_region_noPanic ?_
        refine wp_region_held_drew (S := (fun w' => Below wr.heap.size wr w' ∧ w'.cell? ⟨B1, 40, none⟩ = some (.slice (some ⟨g, o, none⟩) m c) ∧ w'.cell? ⟨B2, 40, none⟩ = some (.slice (some ⟨g', o', none⟩) m c') ∧ w'.rangeAt g (o + k * 41) (x.row ax cx) ∧ w'.rangeAt g' (o' + k * 41) (y.row ay cy))) (by kernel_rfl) ?_ (fun hHeld => ?_)
        · (try dsimp only); (first | assumption | exact HK.out _ (on_drew (Below.refl _ _)) | exact HK.out _ Hkn.out)
        refine wpAnyH_take (i := 0) (v := ?_) rfl (by kernel_rfl) (by kernel_rfl) (by kernel_rfl) (fun _ _ _ h => h) (Or.inl ⟨by rfl, ?_⟩) (by assumption) ?_
        rotate_left
        · intro w hSw; (try dsimp only at hSw); go_simp; (try with_reducible rfl)
        (try simp only [List.getElem_toArray, List.getElem_cons_succ, List.getElem_cons_zero, Act.put, List.setIfInBounds_toArray, List.set_cons_zero, List.set_cons_succ])
        refine wpAnyH_take (i := 1) (v := ?_) rfl (by kernel_rfl) (by kernel_rfl) (by kernel_rfl) (fun _ _ _ h => h) (Or.inl ⟨by rfl, ?_⟩) (by assumption) ?_
        rotate_left
        · intro w hSw; (try dsimp only at hSw); go_simp; (try with_reducible rfl)
        (try simp only [List.getElem_toArray, List.getElem_cons_succ, List.getElem_cons_zero, Act.put, List.setIfInBounds_toArray, List.set_cons_zero, List.set_cons_succ])
        refine wpAnyH_take (i := 2) (v := ?_) rfl (by kernel_rfl) (by kernel_rfl) (by kernel_rfl) (fun _ _ _ h => h) (Or.inl ⟨by rfl, ?_⟩) (by assumption) ?_
        rotate_left
        · intro w hSw; (try dsimp only at hSw); go_simp; (try with_reducible rfl)
        (try simp only [List.getElem_toArray, List.getElem_cons_succ, List.getElem_cons_zero, Act.put, List.setIfInBounds_toArray, List.set_cons_zero, List.set_cons_succ])
        refine wpAnyH_take (i := 3) (v := ?_) rfl (by kernel_rfl) (by kernel_rfl) (by kernel_rfl) (fun _ _ _ h => h) (Or.inl ⟨by rfl, ?_⟩) (by assumption) ?_
        rotate_left
        · intro w hSw; (try dsimp only at hSw); go_simp; (try with_reducible rfl)
        (try simp only [List.getElem_toArray, List.getElem_cons_succ, List.getElem_cons_zero, Act.put, List.setIfInBounds_toArray, List.set_cons_zero, List.set_cons_succ])
        refine' wpAnyH_take (i := 4) (v := _) rfl (by kernel_rfl) (by kernel_rfl) (by kernel_rfl) (fun _ _ _ h => h) (yieldsIf_load_mid (by rfl) _ _ rfl _ _ rfl _ _ ?hSC4 ?huC4 ?hdC4 ?hiC4) (by assumption) ?restC1
        case hSC4 => (intro w hSw; (try dsimp only at hSw); go_split_ands; assumption)
        case huC4 => assumption
        case hdC4 => rfl
        case hiC4 => first | assumption | (simp only [*]; done)
        (try simp only [List.getElem_toArray, List.getElem_cons_succ, List.getElem_cons_zero, Act.put, List.setIfInBounds_toArray, List.set_cons_zero, List.set_cons_succ])
        refine wpAnyH_take (i := 5) (v := ?_) rfl (by kernel_rfl) (by kernel_rfl) (by kernel_rfl) (fun _ _ _ h => h) (Or.inl ⟨by rfl, ?_⟩) (by assumption) ?_
        rotate_left
        · intro w hSw; (try dsimp only at hSw); go_simp; (try with_reducible rfl)
        (try simp only [List.getElem_toArray, List.getElem_cons_succ, List.getElem_cons_zero, Act.put, List.setIfInBounds_toArray, List.set_cons_zero, List.set_cons_succ])
        refine wpAnyH_take (i := 6) (v := ?_) rfl (by kernel_rfl) (by kernel_rfl) (by kernel_rfl) (fun _ _ _ h => h) (Or.inl ⟨by rfl, ?_⟩) (by assumption) ?_
        rotate_left
        · intro w hSw; (try dsimp only at hSw); go_simp; (try with_reducible rfl)
        (try simp only [List.getElem_toArray, List.getElem_cons_succ, List.getElem_cons_zero, Act.put, List.setIfInBounds_toArray, List.set_cons_zero, List.set_cons_succ])
        refine wpAnyH_take (i := 7) (v := ?_) rfl (by kernel_rfl) (by kernel_rfl) (by kernel_rfl) (fun _ _ _ h => h) (Or.inl ⟨by rfl, ?_⟩) (by assumption) ?_
        rotate_left
        · intro w hSw; (try dsimp only at hSw); go_simp; (try with_reducible rfl)
        (try simp only [List.getElem_toArray, List.getElem_cons_succ, List.getElem_cons_zero, Act.put, List.setIfInBounds_toArray, List.set_cons_zero, List.set_cons_succ])
        refine wpAnyH_take (i := 8) (v := ?_) rfl (by kernel_rfl) (by kernel_rfl) (by kernel_rfl) (fun _ _ _ h => h) (Or.inl ⟨by rfl, ?_⟩) (by assumption) ?_
        rotate_left
        · intro w hSw; (try dsimp only at hSw); go_simp; (try with_reducible rfl)
        (try simp only [List.getElem_toArray, List.getElem_cons_succ, List.getElem_cons_zero, Act.put, List.setIfInBounds_toArray, List.set_cons_zero, List.set_cons_succ])
        refine' wpAnyH_take (i := 9) (v := _) rfl (by kernel_rfl) (by kernel_rfl) (by kernel_rfl) (fun _ _ _ h => h) (yieldsIf_load_mid (by rfl) _ _ rfl _ _ rfl _ _ ?hSC9 ?huC9 ?hdC9 ?hiC9) (by assumption) ?restC2
        case hSC9 => (intro w hSw; (try dsimp only at hSw); go_split_ands; assumption)
        case huC9 => assumption
        case hdC9 => rfl
        case hiC9 => first | assumption | (simp only [*]; done)
        (try simp only [List.getElem_toArray, List.getElem_cons_succ, List.getElem_cons_zero, Act.put, List.setIfInBounds_toArray, List.set_cons_zero, List.set_cons_succ])
        refine wpAnyH_ready (rs := [10]) (by kernel_rfl) (by simp) ?_
        refine AllReadyH.cons rfl (fun K hK => ?_) ?_
        rotate_left
        · exact AllReadyH.nil
        go_simp
        refine Hcall.out.mono ?_; rintro e wn ⟨rfl, hbn⟩; have Hkn := Lib.hid (below_on (on_drew (Below.refl wr.heap.size wr)) hbn); clear hbn
        (try go_wp2_with fail)
        refine hK.out _ _ ?_ (fun hHeld => ?_)
        · (try dsimp only); (first | assumption | exact HK.out _ (on_drew (Below.refl _ _)) | exact HK.out _ Hkn.out)
        clear hK K
        (try simp only [List.getElem_toArray, List.getElem_cons_succ, List.getElem_cons_zero, Act.put, List.setIfInBounds_toArray, List.set_cons_zero, List.set_cons_succ])
        refine wpAnyH_take (i := 11) (v := ?_) rfl (by kernel_rfl) (by kernel_rfl) (by kernel_rfl) (fun _ _ _ h => h) (Or.inl ⟨by rfl, ?_⟩) (by assumption) ?_
        rotate_left
        · intro w hSw; (try dsimp only at hSw); go_simp; (try with_reducible rfl)
        (try simp only [List.getElem_toArray, List.getElem_cons_succ, List.getElem_cons_zero, Act.put, List.setIfInBounds_toArray, List.set_cons_zero, List.set_cons_succ])
        refine wpAnyH_done (by kernel_rfl) ?_ _
        refine NoPanic.normal ?_
        have Htw5 := Lib.hid (Htw.out.next Hkn.out)
        clear hHeld f40 g40 inf41 inf41' und41 HK Hkn Hcall
        cases lb with
        | false =>
          have Hf := Lib.hid (like_kid Hxy.out.1 Hxy.out.2 Hlb.out.symm)
          go_wp2_with fail
          go_ret
          exact ⟨ret_b Hf.out.symm, Htw5.out.2.2⟩
        | true =>
          go_wp2_with fail
          go_roundw
          case rel =>
            refine ⟨k + 1, hlt, by go_num, Htw5.out, fun i a1 b1 hi ha hb => ?_⟩
            by_cases hik : i = k
            · subst hik
              rw [Hxy.out.1] at ha
              rw [Hxy.out.2] at hb
              injection ha with ha
              injection hb with hb
              rw [← ha, ← hb]; exact Hlb.out.symm
            · exact Hall.out i a1 b1 (by omega) ha hb
          case measure => simp [intOf]; omega
      · obtain rfl : k = m := by omega
        have Hf := Lib.hid (like_all (n := n) (u := u) Hnm.out Hvu.out (by rw [← Hm.out, ← Hl.out]) (fun i a b ha hb => Hall.out i a b (by rw [Hm.out]; exact (List.getElem?_eq_some_iff.1 ha).1) ha hb))
        clear hlt
        go_wp2
        go_ret
        exact ⟨ret_b Hf.out.symm, Htw.out.2.2⟩
theorem like_ok : ∀ (d : Nat) (F G : Nat → Prop) (w : World) (n u : Nd) (a : Option Addr) (c : Nat) (a' : Option Addr) (c' : Nat), NodeIn w F d n a → NodeIn w G d u a' →
      Calls Try.prog 45 #[.agg (n.row a c).toArray, .agg (u.row a' c').toArray] w fun e' w' => e' = .returned (.bool (likeR n u)) ∧ Below w.heap.size w w'
  | 0, F, G, w, n, u, a, c, a', c', hn, hu => like_step 0 (fun e he => by omega) F G w n u a c a' c' hn hu
  | d + 1, F, G, w, n, u, a, c, a', c', hn, hu => like_step (d + 1) (fun e he => by
      obtain rfl : d = e := Nat.succ.inj he
      exact like_ok d) F G w n u a c a' c' hn hu
end Go.Proofs.Ythnbinlllmkabaa
