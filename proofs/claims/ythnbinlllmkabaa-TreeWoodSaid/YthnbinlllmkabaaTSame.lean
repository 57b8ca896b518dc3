/- tree.Same: what it tells; walked. (Written by gen_tsame.py.) -/
import Derived.Test.YthnbinlllmkabaaSlEq
import Derived.Test.YthnbinlllmkabaaEq
import Derived.Test.YthnbinlllmkabaaOwn
import Derived.Test.YthnbinlllmkabaaGen
import Derived.Deep.RegionHeld3
namespace Go.Proofs.Ythnbinlllmkabaa
open Go.RowKit Go.Shelf
set_option linter.unusedVariables false
set_option linter.unusedSimpArgs false

/-- A value as another one sees it: an unknown mode is any. -/
def openV (o : Bool) (v u : Vl) : Vl := if o = true ∧ u.mode = 8 ∧ u.kind ≠ 3 then ⟨v.kind, 8, v.size, v.sum⟩ else v
mutual
/-- Do two trees have the same values? -/
def sameO (o : Bool) : Nd → Nd → Bool
  | .mk _ v _ ks, .mk _ u _ js => decide (openV o v u = u) && (decide (ks.map Nd.name = js.map Nd.name) && sameKids o ks js)
def sameKids (o : Bool) : List Nd → List Nd → Bool
  | k :: ks, j :: js => sameO o k j && sameKids o ks js
  | _, _ => true
end
theorem sameO_eq (o : Bool) (n u : Nd) : sameO o n u = (decide (openV o n.v u.v = u.v) && (decide (n.kids.map Nd.name = u.kids.map Nd.name) && sameKids o n.kids u.kids)) := by cases n; cases u; rw [sameO]; rfl
theorem sameKids_iff (o : Bool) : ∀ ks js : List Nd, sameKids o ks js = true ↔ ∀ (i : Nat) (k j : Nd), ks[i]? = some k → js[i]? = some j → sameO o k j = true
  | [], js => by simp [sameKids]
  | k :: ks, [] => by simp [sameKids]
  | k :: ks, j :: js => by
    rw [sameKids, Bool.and_eq_true, sameKids_iff o ks js]
    constructor
    · rintro ⟨h1, h2⟩ i a b ha hb
      cases i with
      | zero => simp at ha hb; subst ha hb; exact h1
      | succ i => exact h2 i a b (by simpa using ha) (by simpa using hb)
    · intro h
      exact ⟨h 0 k j rfl rfl, fun i a b ha hb => h (i + 1) a b (by simpa using ha) (by simpa using hb)⟩
theorem openV_wf {o : Bool} {v u : Vl} (h : v.wf) : (openV o v u).wf := by
  unfold openV
  split
  · exact ⟨h.1, h.2.1, by show i64 8; constructor <;> decide, h.2.2.2⟩
  · exact h
theorem cells_set1 (v : Vl) (m : Int) : v.cells.toArray.setIfInBounds 1 (.int .i64 m) = (⟨v.kind, m, v.size, v.sum⟩ : Vl).cells.toArray := by
  apply Array.ext'
  rw [Array.toList_setIfInBounds]
  rfl
def SameOk (o : Bool) (d : Nat) : Prop := ∀ (F G : Nat → Prop) (w : World) (p q : Nat) (n u : Nd), TreeAt w F d p n → TreeAt w G d q u →
  Calls Try.prog 42 #[.pointer (some ⟨p, 0, none⟩), .pointer (some ⟨q, 0, none⟩), .bool o] w fun e w' => e = .returned (.bool (sameO o n u)) ∧ Below w.heap.size w w'
set_option maxHeartbeats 20000000 in
set_option maxRecDepth 100000 in
theorem same_step (o : Bool) (d : Nat) (ih : SameOk o d) : SameOk o (d + 1) := by
  intro F G w p q n u ht hu
  have Ih := Lib.hid ih
  obtain ⟨_, hv, _, an, ak, cn, ck, ps, hrow, hsn, hsk, _, _, hpl, _, _, hkids⟩ := ht
  obtain ⟨_, hv2, _, bn, bk, dn, dk, qs, hrow2, hsn2, hsk2, _, _, hpl2, _, _, hkids2⟩ := hu
  obtain ⟨m, hm⟩ : ∃ m, m = n.kids.length := ⟨_, rfl⟩
  obtain ⟨m2, hm2⟩ : ∃ m, m = u.kids.length := ⟨_, rfl⟩
  rw [← hm] at hrow hsn hsk
  rw [← hm2] at hrow2 hsn2 hsk2
  have tro := trow_at (o := 0) hv (rangeAt_row hrow)
  have tro2 := trow_at (o := 0) hv2 (rangeAt_row hrow2)
  simp only [Nat.zero_add] at tro tro2
  have pv := tro.1
  have p39 := tro.2.2.1
  have p40 := tro.2.2.2.1
  have qv := tro2.1
  have q39 := tro2.2.2.1
  have q40 := tro2.2.2.2.1
  have qk := (vl_at (o := 0) qv).1
  have qm := (vl_at (o := 0) qv).2.1
  simp only [Nat.zero_add] at qm
  have hpw : p < w.heap.size := lt_heap hrow
  have hqw : q < w.heap.size := lt_heap hrow2
  have mlen : m ≤ 9223372036854775807 := by obtain ⟨_, _, _, _, h, _⟩ := hsk; exact h
  have HT := Lib.hid (And.intro hpl hkids)
  have HT2 := Lib.hid (And.intro hpl2 hkids2)
  have Hsn := Lib.hid hsn
  have Hsk := Lib.hid hsk
  have Hsn2 := Lib.hid hsn2
  have Hsk2 := Lib.hid hsk2
  have Hm := Lib.hid (And.intro hm hm2)
  have Hv := Lib.hid hv
  have Hv2 := Lib.hid hv2
  have Hpv := Lib.hid pv
  have l35 := Lib.hid (n.v.cells_length hv)
  have s35 := Lib.hid (show n.v.cells.toArray.size = 35 by rw [List.size_toArray]; exact n.v.cells_length hv)
  have o35 := Lib.hid (show n.v.cells.toArray.all (·.oneCell') = true from all_one n.v.cells_one)
  have Hs := Lib.hid (show ∀ w', Below w.heap.size w w' → w'.rangeAt q 0 u.v.cells ∧ w'.cell? ⟨p, 39, none⟩ = some (.slice an m cn) ∧ w'.cell? ⟨p, 40, none⟩ = some (.slice ak m ck) ∧ w'.cell? ⟨q, 39, none⟩ = some (.slice bn m2 dn) ∧ w'.cell? ⟨q, 40, none⟩ = some (.slice bk m2 dk) ∧ w'.cell? ⟨q, 0, none⟩ = some (.int .i64 u.v.kind) ∧ w'.cell? ⟨q, 1, none⟩ = some (.int .i64 u.v.mode) from
    fun w' h => ⟨rangeAt_kept qv (Upd.below h fun _ => False) id, (h.cell hpw).trans p39, (h.cell hpw).trans p40, (h.cell hqw).trans q39, (h.cell hqw).trans q40, (h.cell hqw).trans qk, (h.cell hqw).trans qm⟩)
  clear ih hrow hrow2 hsn hsn2 hsk hsk2 hpl hpl2 hkids hkids2 tro tro2 hm hm2 hv hv2 pv qv p39 p40 q39 q40 qk qm
  go_enter Try.func42, Try.ntmps42
  go_wp2_with (first | (refine wpList_load_midg (by rfl) 24 (.tmp 20) rfl p 0 rfl n.v.cells _ Hpv.out Try.underlying24 rfl (by rw [l35.out]; kernel_rfl) ?_) | (refine wpList_store_fresh rfl 24 _ _ rfl n.v.cells.toArray rfl rfl (by rw [s35.out]; kernel_rfl) (by rw [s35.out]; rfl) o35.out ?_))
  intro w1 hs1 hr1 hb1
  obtain ⟨rq, c39, c40, d39, d40, dk0, dm0⟩ := Hs.out w1 hb1
  have Hb1 := Lib.hid hb1
  have Hr1 := Lib.hid hr1
  have hB1 : w.heap.size < w1.heap.size := lt_heap hr1
  clear hb1 hr1 Hpv c39 c40 d39 d40 rq
  cases o with
  | false =>
    have Hop := Lib.hid (show openV false n.v u.v = n.v by unfold openV; rw [if_neg (by simp)])
    clear dk0 dm0
    go_wp2_with fail
    have Hb2 := Lib.hid Hb1.out
    have Hr2 := Lib.hid Hr1.out
    -- ROW OF THE VALUE: n.v in w1
    obtain ⟨rq, c39, c40, d39, d40, _, _⟩ := Hs.out w1 Hb2.out
    obtain ⟨vv, hvv⟩ : ∃ vv, vv = n.v := ⟨_, rfl⟩
    have hop : openV false n.v u.v = vv := by rw [hvv]; exact Hop.out
    have R2 := Hr2.out
    rw [← hvv] at R2
    have rb := rangeAt_row R2
    have hvl : vv.cells.length = 35 := vv.cells_length (by rw [← hop]; exact openV_wf Hv.out)
    have hsum : vv.sum.length = 32 := by have := openV_wf (o := false) (u := u.v) Hv.out; rw [hop] at this; exact this.1
    have heq : ∀ w, (Op.equalIn 10000 24 (.agg vv.cells.toArray) (.agg u.v.cells.toArray)).run Try.prog w = .ok (decide (vv = u.v)) w := fun w => eq_value vv u.v hsum Hv2.out.1 w
    have inf1 : (Try.prog.info? 24).map (·.size) = some vv.cells.length := by rw [hvl]; kernel_rfl
    have inf2 : (Try.prog.info? 24).map (·.size) = some u.v.cells.length := by rw [u.v.cells_length Hv2.out]; kernel_rfl
    have und24 := Try.underlying24
    have HKS : Hid (∀ w', Below w1.heap.size w1 w' → Below w1.heap.size w1 w' ∧ w'.rangeAt w.heap.size 0 vv.cells ∧ w'.rangeAt q 0 u.v.cells ∧ w'.cell? ⟨p, 39, none⟩ = some (.slice an m cn) ∧ w'.cell? ⟨q, 39, none⟩ = some (.slice bn m2 dn)) := fun w' h => by
      obtain ⟨e1, e2, _, e3, _⟩ := Hs.out w' (below_on Hb2.out h)
      exact ⟨h, rangeAt_kept rb (Upd.below h fun _ => False) id, e1, e2, e3⟩
    have Hkn := Lib.hid (Below.refl w1.heap.size w1)
    have Hop2 := Lib.hid hop
    have Hvv := Lib.hid hvv
    clear hop hvv R2 hvl hsum rb rq
    by_cases hne : vv = u.v
    · have hd : decide (vv = u.v) = true := decide_eq_true hne
      simp only [hd] at heq
      have Hne := Lib.hid hne
      clear hne hd
      have Heq := Lib.hid (fun wx (hx : Below w1.heap.size w1 wx) => sliceEq_any wx an bn cn dn m m2 (n.kids.map Nd.name) (u.kids.map Nd.name) (Hsn.out.below (below_on Hb2.out hx)) (Hsn2.out.below (below_on Hb2.out hx)) (by rw [List.length_map]; exact Hm.out.1.symm) (by rw [List.length_map]; exact Hm.out.2.symm))
      obtain ⟨bn', hbn'⟩ : ∃ b, b = decide (n.kids.map Nd.name = u.kids.map Nd.name) := ⟨_, rfl⟩
      rw [← hbn'] at Heq
      have Hbn := Lib.hid hbn'
      clear hbn'
      refine wp_region_noPanic ?_
      refine wp_region_held_drew (S := (fun w' => Below w1.heap.size w1 w' ∧ w'.rangeAt w.heap.size 0 vv.cells ∧ w'.rangeAt q 0 u.v.cells ∧ w'.cell? ⟨p, 39, none⟩ = some (.slice an m cn) ∧ w'.cell? ⟨q, 39, none⟩ = some (.slice bn m2 dn))) (by kernel_rfl) ?_ (fun hHeld => ?_)
      · (try dsimp only); (first | assumption | exact HKS.out _ (on_drew (Below.refl _ _)) | exact HKS.out _ Hkn1.out)
      refine' wpAnyH_take (i := 0) (v := _) rfl (by kernel_rfl) (by kernel_rfl) (by kernel_rfl) (fun _ _ _ h => h) (yieldsIf_load_mid (by rfl) _ _ rfl _ _ rfl _ _ ?hSAa0 ?huAa0 ?hdAa0 ?hiAa0) (by assumption) ?restAa1
      case hSAa0 => (intro w hSw; (try dsimp only at hSw); go_split_ands; assumption)
      case huAa0 => assumption
      case hdAa0 => rfl
      case hiAa0 => first | assumption | (simp only [*]; done)
      (try simp only [List.getElem_toArray, List.getElem_cons_succ, List.getElem_cons_zero, Act.put, List.setIfInBounds_toArray, List.set_cons_zero, List.set_cons_succ])
      refine wpAnyH_take (i := 1) (v := ?_) rfl (by kernel_rfl) (by kernel_rfl) (by kernel_rfl) (fun _ _ _ h => h) (Or.inl ⟨by rfl, ?_⟩) (by assumption) ?_
      rotate_left
      · intro w hSw; (try dsimp only at hSw); go_simp; (try with_reducible rfl)
      (try simp only [List.getElem_toArray, List.getElem_cons_succ, List.getElem_cons_zero, Act.put, List.setIfInBounds_toArray, List.set_cons_zero, List.set_cons_succ])
      refine wpAnyH_take (i := 2) (v := ?_) rfl (by kernel_rfl) (by kernel_rfl) (by kernel_rfl) (fun _ _ _ h => h) (Or.inl ⟨by rfl, ?_⟩) (by assumption) ?_
      rotate_left
      · intro w hSw; (try dsimp only at hSw); go_simp; (try with_reducible rfl)
      (try simp only [List.getElem_toArray, List.getElem_cons_succ, List.getElem_cons_zero, Act.put, List.setIfInBounds_toArray, List.set_cons_zero, List.set_cons_succ])
      refine wpAnyH_take (i := 3) (v := ?_) rfl (by kernel_rfl) (by kernel_rfl) (by kernel_rfl) (fun _ _ _ h => h) (Or.inl ⟨by rfl, ?_⟩) (by assumption) ?_
      rotate_left
      · intro w hSw; (try dsimp only at hSw); go_simp; (try with_reducible rfl)
      (try simp only [List.getElem_toArray, List.getElem_cons_succ, List.getElem_cons_zero, Act.put, List.setIfInBounds_toArray, List.set_cons_zero, List.set_cons_succ])
      refine' wpAnyH_take (i := 4) (v := _) rfl (by kernel_rfl) (by kernel_rfl) (by kernel_rfl) (fun _ _ _ h => h) (yieldsIf_load_mid (by rfl) _ _ rfl _ _ rfl _ _ ?hSAa4 ?huAa4 ?hdAa4 ?hiAa4) (by assumption) ?restAa2
      case hSAa4 => (intro w hSw; (try dsimp only at hSw); go_split_ands; assumption)
      case huAa4 => assumption
      case hdAa4 => rfl
      case hiAa4 => first | assumption | (simp only [*]; done)
      (try simp only [List.getElem_toArray, List.getElem_cons_succ, List.getElem_cons_zero, Act.put, List.setIfInBounds_toArray, List.set_cons_zero, List.set_cons_succ])
      refine wpAnyH_take (i := 5) (v := ?_) rfl (by kernel_rfl) (by kernel_rfl) (by kernel_rfl) (fun _ _ _ h => h) (Or.inl ⟨by rfl, ?_⟩) (by assumption) ?_
      rotate_left
      · intro w hSw; (try dsimp only at hSw); go_simp; (try with_reducible rfl)
      (try simp only [List.getElem_toArray, List.getElem_cons_succ, List.getElem_cons_zero, Act.put, List.setIfInBounds_toArray, List.set_cons_zero, List.set_cons_succ])
      refine wpAnyH_take (i := 6) (v := ?_) rfl (by kernel_rfl) (by kernel_rfl) (by kernel_rfl) (fun _ _ _ h => h) (Or.inl ⟨by rfl, ?_⟩) (by assumption) ?_
      rotate_left
      · intro w hSw; (try dsimp only at hSw); go_simp; (try with_reducible rfl)
      (try simp only [List.getElem_toArray, List.getElem_cons_succ, List.getElem_cons_zero, Act.put, List.setIfInBounds_toArray, List.set_cons_zero, List.set_cons_succ])
      refine wpAnyH_take (i := 7) (v := ?_) rfl (by kernel_rfl) (by kernel_rfl) (by kernel_rfl) (fun _ _ _ h => h) (Or.inl ⟨by rfl, ?_⟩) (by assumption) ?_
      rotate_left
      · intro w hSw; (try dsimp only at hSw); go_simp; (try with_reducible rfl)
      (try simp only [List.getElem_toArray, List.getElem_cons_succ, List.getElem_cons_zero, Act.put, List.setIfInBounds_toArray, List.set_cons_zero, List.set_cons_succ])
      refine wpAnyH_take (i := 8) (v := ?_) rfl (by kernel_rfl) (by kernel_rfl) (by kernel_rfl) (fun _ _ _ h => h) (Or.inl ⟨by rfl, ?_⟩) (by assumption) ?_
      rotate_left
      · intro w hSw; (try dsimp only at hSw); go_simp; (try with_reducible rfl)
      (try simp only [List.getElem_toArray, List.getElem_cons_succ, List.getElem_cons_zero, Act.put, List.setIfInBounds_toArray, List.set_cons_zero, List.set_cons_succ])
      refine wpAnyH_take (i := 9) (v := ?_) rfl (by kernel_rfl) (by kernel_rfl) (by kernel_rfl) (fun _ _ _ h => h) (Or.inl ⟨by rfl, ?_⟩) (by assumption) ?_
      rotate_left
      · intro w hSw; (try dsimp only at hSw); go_simp; (try with_reducible rfl)
      (try simp only [List.getElem_toArray, List.getElem_cons_succ, List.getElem_cons_zero, Act.put, List.setIfInBounds_toArray, List.set_cons_zero, List.set_cons_succ])
      refine wpAnyH_take (i := 10) (v := ?_) rfl (by kernel_rfl) (by kernel_rfl) (by kernel_rfl) (fun _ _ _ h => h) (Or.inl ⟨by rfl, ?_⟩) (by assumption) ?_
      rotate_left
      · intro w hSw; (try dsimp only at hSw); go_simp; (try with_reducible rfl)
      (try simp only [List.getElem_toArray, List.getElem_cons_succ, List.getElem_cons_zero, Act.put, List.setIfInBounds_toArray, List.set_cons_zero, List.set_cons_succ])
      refine wpAnyH_take (i := 11) (v := ?_) rfl (by kernel_rfl) (by kernel_rfl) (by kernel_rfl) (fun _ _ _ h => h) (Or.inl ⟨by rfl, ?_⟩) (by assumption) ?_
      rotate_left
      · intro w hSw; (try dsimp only at hSw); go_simp; (try with_reducible rfl)
      (try simp only [List.getElem_toArray, List.getElem_cons_succ, List.getElem_cons_zero, Act.put, List.setIfInBounds_toArray, List.set_cons_zero, List.set_cons_succ])
      refine wpAnyH_take (i := 12) (v := ?_) rfl (by kernel_rfl) (by kernel_rfl) (by kernel_rfl) (fun _ _ _ h => h) (Or.inl ⟨by rfl, ?_⟩) (by assumption) ?_
      rotate_left
      · intro w hSw; (try dsimp only at hSw); go_simp; (try with_reducible rfl)
      (try simp only [List.getElem_toArray, List.getElem_cons_succ, List.getElem_cons_zero, Act.put, List.setIfInBounds_toArray, List.set_cons_zero, List.set_cons_succ])
      refine wpAnyH_take (i := 13) (v := ?_) rfl (by kernel_rfl) (by kernel_rfl) (by kernel_rfl) (fun _ _ _ h => h) (Or.inl ⟨by rfl, ?_⟩) (by assumption) ?_
      rotate_left
      · intro w hSw; (try dsimp only at hSw); go_simp; (try with_reducible rfl)
      (try simp only [List.getElem_toArray, List.getElem_cons_succ, List.getElem_cons_zero, Act.put, List.setIfInBounds_toArray, List.set_cons_zero, List.set_cons_succ])
      refine wpAnyH_take (i := 14) (v := ?_) rfl (by kernel_rfl) (by kernel_rfl) (by kernel_rfl) (fun _ _ _ h => h) (Or.inl ⟨by rfl, ?_⟩) (by assumption) ?_
      rotate_left
      · intro w hSw; (try dsimp only at hSw); go_simp; (try with_reducible rfl)
      (try simp only [List.getElem_toArray, List.getElem_cons_succ, List.getElem_cons_zero, Act.put, List.setIfInBounds_toArray, List.set_cons_zero, List.set_cons_succ])
      refine wpAnyH_ready (rs := [15]) (by kernel_rfl) (by simp) ?_
      refine AllReadyH.cons rfl (fun K hK => ?_) ?_
      rotate_left
      · exact AllReadyH.nil
      go_simp
      refine (Heq.out _ (on_drew (Below.refl _ _))).mono ?_; rintro e wn ⟨rfl, hbn⟩; have Hkn1 := Lib.hid (below_on (on_drew (Below.refl w1.heap.size w1)) hbn); clear hbn
      (try go_wp2_with fail)
      refine hK.out _ _ ?_ (fun hHeld => ?_)
      · (try dsimp only); (first | assumption | exact HKS.out _ (on_drew (Below.refl _ _)) | exact HKS.out _ Hkn1.out)
      clear hK K
      (try simp only [List.getElem_toArray, List.getElem_cons_succ, List.getElem_cons_zero, Act.put, List.setIfInBounds_toArray, List.set_cons_zero, List.set_cons_succ])
      refine wpAnyH_take (i := 16) (v := ?_) rfl (by kernel_rfl) (by kernel_rfl) (by kernel_rfl) (fun _ _ _ h => h) (Or.inl ⟨by rfl, ?_⟩) (by assumption) ?_
      rotate_left
      · intro w hSw; (try dsimp only at hSw); go_simp; (try with_reducible rfl)
      (try simp only [List.getElem_toArray, List.getElem_cons_succ, List.getElem_cons_zero, Act.put, List.setIfInBounds_toArray, List.set_cons_zero, List.set_cons_succ])
      refine wpAnyH_take (i := 17) (v := ?_) rfl (by kernel_rfl) (by kernel_rfl) (by kernel_rfl) (fun _ _ _ h => h) (Or.inl ⟨by rfl, ?_⟩) (by assumption) ?_
      rotate_left
      · intro w hSw; (try dsimp only at hSw); go_simp; (try with_reducible rfl)
      (try simp only [List.getElem_toArray, List.getElem_cons_succ, List.getElem_cons_zero, Act.put, List.setIfInBounds_toArray, List.set_cons_zero, List.set_cons_succ])
      refine wpAnyH_done (by kernel_rfl) ?_ _
      refine NoPanic.normal ?_
      have Hbw := Lib.hid (below_on Hb2.out Hkn1.out)
      clear heq inf1 inf2 und24 HKS Heq Hkn
      cases bn' with
      | false =>
        have Hres := Lib.hid (show sameO false n u = false by rw [sameO_eq, Hop2.out, decide_eq_true Hne.out, ← Hbn.out]; rfl)
        go_wp2
        go_ret
        exact ⟨by rw [Hres.out]; rfl, Hbw.out⟩
      | true =>
        have hnm : n.kids.map Nd.name = u.kids.map Nd.name := of_decide_eq_true Hbn.out.symm
        have hmm : m2 = m := by
          have h := congrArg List.length hnm
          rw [List.length_map, List.length_map] at h
          rw [Hm.out.1, Hm.out.2, h]
        subst hmm
        have Hres := Lib.hid (show sameO false n u = sameKids false n.kids u.kids by rw [sameO_eq, Hop2.out, decide_eq_true Hne.out, ← Hbn.out]; rfl)
        obtain ⟨_, _, e40, _, g40, _, _⟩ := Hs.out wn Hbw.out
        clear hnm
        (try simp only [Bool.not_true, Bool.not_false])
        go_wp2_with fail
        go_loopw [63] (fun i wr => ∃ k : Nat, k ≤ m2 ∧ i = .int .i64 k ∧ Below w.heap.size w wr ∧ (∀ (i : Nat) (a b : Nd), i < k → n.kids[i]? = some a → u.kids[i]? = some b → sameO false a b = true)) (fun i _ => m2 - (intOf i).toNat)
        case atStart => exact ⟨0, Nat.zero_le _, rfl, Hbw.out, fun i a b h => absurd h (Nat.not_lt_zero _)⟩
        case round =>
          obtain ⟨k, hk, rfl, hbe, hall⟩ := hrel
          have Hbe := Lib.hid hbe
          have Hall := Lib.hid hall
          clear hbe hall e40 g40
          by_cases hlt : k < m2
          · have hk1 : k < n.kids.length := by rw [← Hm.out.1]; exact hlt
            have hk2 : k < u.kids.length := by rw [← Hm.out.2]; exact hlt
            have hp1 : k < ps.length := by rw [HT.out.1]; exact hk1
            have hp2 : k < qs.length := by rw [HT2.out.1]; exact hk2
            obtain ⟨a, ha⟩ : ∃ a, n.kids[k]? = some a := ⟨_, List.getElem?_eq_getElem hk1⟩
            obtain ⟨b, hb⟩ : ∃ b, u.kids[k]? = some b := ⟨_, List.getElem?_eq_getElem hk2⟩
            obtain ⟨x, hx⟩ : ∃ x, ps[k]? = some x := ⟨_, List.getElem?_eq_getElem hp1⟩
            obtain ⟨y, hy⟩ : ∃ y, qs[k]? = some y := ⟨_, List.getElem?_eq_getElem hp2⟩
            obtain ⟨g1, o1, rfl, _, cc1⟩ := (Hsk.out.below Hbe.out).open_ (by simp [ptrs]; omega)
            obtain ⟨g2, o2, rfl, _, cc2⟩ := (Hsk2.out.below Hbe.out).open_ (by simp [ptrs]; omega)
            have x1 := cc1 k (.pointer (some ⟨x, 0, none⟩)) (by simp [ptrs, hx])
            have x2 := cc2 k (.pointer (some ⟨y, 0, none⟩)) (by simp [ptrs, hy])
            obtain ⟨_, _, e40, _, g40, _, _⟩ := Hs.out wr Hbe.out
            have i1 : (0 : Int) ≤ (k : Int) := by omega
            have i2 : (k : Int) < (m2 : Int) := by omega
            have Hab := Lib.hid (And.intro ha hb)
            have hcall := Ih.out F G wr.drew x y a b ((HT.out.2 k x a hx ha).2.below (on_drew Hbe.out)) ((HT2.out.2 k y b hy hb).2.below (on_drew Hbe.out))
            obtain ⟨sb, hsb⟩ : ∃ sb, sb = sameO false a b := ⟨_, rfl⟩
            rw [← hsb] at hcall
            have Hcall := Lib.hid hcall
            have Hsb := Lib.hid hsb
            clear hk1 hk2 hp1 hp2 ha hb hx hy cc1 cc2 hcall hsb
            go_wp2_with fail
            go_still_tail 15, (by kernel_rfl)
            change wpList _ _ _ _ _ wr.drew
            go_wp2_with fail
            refine Hcall.out.mono ?_
            rintro e5 w5 ⟨rfl, hb5⟩
            have Hb5 := Lib.hid ((on_drew Hbe.out).trans (hb5.mono Hbe.out.size))
            clear hb5 Hcall
            cases sb with
            | false =>
              have Hf := Lib.hid (show sameKids false n.kids u.kids = false by
                rw [Bool.eq_false_iff]
                intro h
                have := (sameKids_iff false _ _).1 h k a b Hab.out.1 Hab.out.2
                rw [← Hsb.out] at this
                cases this)
              go_wp2
              go_ret
              exact ⟨by rw [Hres.out, Hf.out]; rfl, Hb5.out⟩
            | true =>
              go_wp2
              go_roundw
              case rel =>
                refine ⟨k + 1, hlt, by go_num, Hb5.out, fun i a' b' hi ha' hb' => ?_⟩
                by_cases hik : i = k
                · subst hik
                  rw [Hab.out.1] at ha'
                  rw [Hab.out.2] at hb'
                  injection ha' with ha'
                  injection hb' with hb'
                  rw [← ha', ← hb']; exact Hsb.out.symm
                · exact Hall.out i a' b' (by omega) ha' hb'
              case measure => simp [intOf]; omega
          · obtain rfl : k = m2 := by omega
            have Hf := Lib.hid (show sameKids false n.kids u.kids = true from (sameKids_iff false _ _).2 fun i a b ha hb => Hall.out i a b (by rw [Hm.out.1]; exact (List.getElem?_eq_some_iff.1 ha).1) ha hb)
            clear hlt
            go_wp2
            go_ret
            exact ⟨by rw [Hres.out, Hf.out]; rfl, Hbe.out⟩
    · have hd : decide (vv = u.v) = false := decide_eq_false hne
      simp only [hd] at heq
      have Hres := Lib.hid (show sameO false n u = false by rw [sameO_eq, Hop2.out, hd]; rfl)
      clear hne hd
      refine wp_region_noPanic ?_
      refine wp_region_held_drew (S := (fun w' => Below w1.heap.size w1 w' ∧ w'.rangeAt w.heap.size 0 vv.cells ∧ w'.rangeAt q 0 u.v.cells ∧ w'.cell? ⟨p, 39, none⟩ = some (.slice an m cn) ∧ w'.cell? ⟨q, 39, none⟩ = some (.slice bn m2 dn))) (by kernel_rfl) ?_ (fun hHeld => ?_)
      · (try dsimp only); (first | assumption | exact HKS.out _ (on_drew (Below.refl _ _)) | exact HKS.out _ Hkn1.out)
      refine' wpAnyH_take (i := 0) (v := _) rfl (by kernel_rfl) (by kernel_rfl) (by kernel_rfl) (fun _ _ _ h => h) (yieldsIf_load_mid (by rfl) _ _ rfl _ _ rfl _ _ ?hSAb0 ?huAb0 ?hdAb0 ?hiAb0) (by assumption) ?restAb1
      case hSAb0 => (intro w hSw; (try dsimp only at hSw); go_split_ands; assumption)
      case huAb0 => assumption
      case hdAb0 => rfl
      case hiAb0 => first | assumption | (simp only [*]; done)
      (try simp only [List.getElem_toArray, List.getElem_cons_succ, List.getElem_cons_zero, Act.put, List.setIfInBounds_toArray, List.set_cons_zero, List.set_cons_succ])
      refine wpAnyH_take (i := 1) (v := ?_) rfl (by kernel_rfl) (by kernel_rfl) (by kernel_rfl) (fun _ _ _ h => h) (Or.inl ⟨by rfl, ?_⟩) (by assumption) ?_
      rotate_left
      · intro w hSw; (try dsimp only at hSw); go_simp; (try with_reducible rfl)
      (try simp only [List.getElem_toArray, List.getElem_cons_succ, List.getElem_cons_zero, Act.put, List.setIfInBounds_toArray, List.set_cons_zero, List.set_cons_succ])
      refine wpAnyH_take (i := 2) (v := ?_) rfl (by kernel_rfl) (by kernel_rfl) (by kernel_rfl) (fun _ _ _ h => h) (Or.inl ⟨by rfl, ?_⟩) (by assumption) ?_
      rotate_left
      · intro w hSw; (try dsimp only at hSw); go_simp; (try with_reducible rfl)
      (try simp only [List.getElem_toArray, List.getElem_cons_succ, List.getElem_cons_zero, Act.put, List.setIfInBounds_toArray, List.set_cons_zero, List.set_cons_succ])
      refine wpAnyH_take (i := 3) (v := ?_) rfl (by kernel_rfl) (by kernel_rfl) (by kernel_rfl) (fun _ _ _ h => h) (Or.inl ⟨by rfl, ?_⟩) (by assumption) ?_
      rotate_left
      · intro w hSw; (try dsimp only at hSw); go_simp; (try with_reducible rfl)
      (try simp only [List.getElem_toArray, List.getElem_cons_succ, List.getElem_cons_zero, Act.put, List.setIfInBounds_toArray, List.set_cons_zero, List.set_cons_succ])
      refine' wpAnyH_take (i := 4) (v := _) rfl (by kernel_rfl) (by kernel_rfl) (by kernel_rfl) (fun _ _ _ h => h) (yieldsIf_load_mid (by rfl) _ _ rfl _ _ rfl _ _ ?hSAb4 ?huAb4 ?hdAb4 ?hiAb4) (by assumption) ?restAb2
      case hSAb4 => (intro w hSw; (try dsimp only at hSw); go_split_ands; assumption)
      case huAb4 => assumption
      case hdAb4 => rfl
      case hiAb4 => first | assumption | (simp only [*]; done)
      (try simp only [List.getElem_toArray, List.getElem_cons_succ, List.getElem_cons_zero, Act.put, List.setIfInBounds_toArray, List.set_cons_zero, List.set_cons_succ])
      refine wpAnyH_take (i := 5) (v := ?_) rfl (by kernel_rfl) (by kernel_rfl) (by kernel_rfl) (fun _ _ _ h => h) (Or.inl ⟨by rfl, ?_⟩) (by assumption) ?_
      rotate_left
      · intro w hSw; (try dsimp only at hSw); go_simp; (try with_reducible rfl)
      (try simp only [List.getElem_toArray, List.getElem_cons_succ, List.getElem_cons_zero, Act.put, List.setIfInBounds_toArray, List.set_cons_zero, List.set_cons_succ])
      refine wpAnyH_take (i := 6) (v := ?_) rfl (by kernel_rfl) (by kernel_rfl) (by kernel_rfl) (fun _ _ _ h => h) (Or.inl ⟨by rfl, ?_⟩) (by assumption) ?_
      rotate_left
      · intro w hSw; (try dsimp only at hSw); go_simp; (try with_reducible rfl)
      (try simp only [List.getElem_toArray, List.getElem_cons_succ, List.getElem_cons_zero, Act.put, List.setIfInBounds_toArray, List.set_cons_zero, List.set_cons_succ])
      refine wpAnyH_take (i := 7) (v := undef) rfl (by kernel_rfl) (by kernel_rfl) (by kernel_rfl) (fun _ _ _ h => h) (Or.inr ⟨by rfl, rfl⟩) (by assumption) ?_
      (try simp only [List.getElem_toArray, List.getElem_cons_succ, List.getElem_cons_zero, Act.put, List.setIfInBounds_toArray, List.set_cons_zero, List.set_cons_succ])
      refine wpAnyH_take (i := 8) (v := undef) rfl (by kernel_rfl) (by kernel_rfl) (by kernel_rfl) (fun _ _ _ h => h) (Or.inr ⟨by rfl, rfl⟩) (by assumption) ?_
      (try simp only [List.getElem_toArray, List.getElem_cons_succ, List.getElem_cons_zero, Act.put, List.setIfInBounds_toArray, List.set_cons_zero, List.set_cons_succ])
      refine wpAnyH_take (i := 9) (v := undef) rfl (by kernel_rfl) (by kernel_rfl) (by kernel_rfl) (fun _ _ _ h => h) (Or.inr ⟨by rfl, rfl⟩) (by assumption) ?_
      (try simp only [List.getElem_toArray, List.getElem_cons_succ, List.getElem_cons_zero, Act.put, List.setIfInBounds_toArray, List.set_cons_zero, List.set_cons_succ])
      refine wpAnyH_take (i := 10) (v := undef) rfl (by kernel_rfl) (by kernel_rfl) (by kernel_rfl) (fun _ _ _ h => h) (Or.inr ⟨by rfl, rfl⟩) (by assumption) ?_
      (try simp only [List.getElem_toArray, List.getElem_cons_succ, List.getElem_cons_zero, Act.put, List.setIfInBounds_toArray, List.set_cons_zero, List.set_cons_succ])
      refine wpAnyH_take (i := 11) (v := undef) rfl (by kernel_rfl) (by kernel_rfl) (by kernel_rfl) (fun _ _ _ h => h) (Or.inr ⟨by rfl, rfl⟩) (by assumption) ?_
      (try simp only [List.getElem_toArray, List.getElem_cons_succ, List.getElem_cons_zero, Act.put, List.setIfInBounds_toArray, List.set_cons_zero, List.set_cons_succ])
      refine wpAnyH_take (i := 12) (v := undef) rfl (by kernel_rfl) (by kernel_rfl) (by kernel_rfl) (fun _ _ _ h => h) (Or.inr ⟨by rfl, rfl⟩) (by assumption) ?_
      (try simp only [List.getElem_toArray, List.getElem_cons_succ, List.getElem_cons_zero, Act.put, List.setIfInBounds_toArray, List.set_cons_zero, List.set_cons_succ])
      refine wpAnyH_take (i := 13) (v := undef) rfl (by kernel_rfl) (by kernel_rfl) (by kernel_rfl) (fun _ _ _ h => h) (Or.inr ⟨by rfl, rfl⟩) (by assumption) ?_
      (try simp only [List.getElem_toArray, List.getElem_cons_succ, List.getElem_cons_zero, Act.put, List.setIfInBounds_toArray, List.set_cons_zero, List.set_cons_succ])
      refine wpAnyH_take (i := 14) (v := undef) rfl (by kernel_rfl) (by kernel_rfl) (by kernel_rfl) (fun _ _ _ h => h) (Or.inr ⟨by rfl, rfl⟩) (by assumption) ?_
      (try simp only [List.getElem_toArray, List.getElem_cons_succ, List.getElem_cons_zero, Act.put, List.setIfInBounds_toArray, List.set_cons_zero, List.set_cons_succ])
      refine wpAnyH_take (i := 15) (v := undef) rfl (by kernel_rfl) (by kernel_rfl) (by kernel_rfl) (fun _ _ _ h => h) (Or.inr ⟨by rfl, rfl⟩) (by assumption) ?_
      (try simp only [List.getElem_toArray, List.getElem_cons_succ, List.getElem_cons_zero, Act.put, List.setIfInBounds_toArray, List.set_cons_zero, List.set_cons_succ])
      refine wpAnyH_take (i := 16) (v := undef) rfl (by kernel_rfl) (by kernel_rfl) (by kernel_rfl) (fun _ _ _ h => h) (Or.inr ⟨by rfl, rfl⟩) (by assumption) ?_
      (try simp only [List.getElem_toArray, List.getElem_cons_succ, List.getElem_cons_zero, Act.put, List.setIfInBounds_toArray, List.set_cons_zero, List.set_cons_succ])
      refine wpAnyH_take (i := 17) (v := ?_) rfl (by kernel_rfl) (by kernel_rfl) (by kernel_rfl) (fun _ _ _ h => h) (Or.inl ⟨by rfl, ?_⟩) (by assumption) ?_
      rotate_left
      · intro w hSw; (try dsimp only at hSw); go_simp; (try with_reducible rfl)
      (try simp only [List.getElem_toArray, List.getElem_cons_succ, List.getElem_cons_zero, Act.put, List.setIfInBounds_toArray, List.set_cons_zero, List.set_cons_succ])
      refine wpAnyH_done (by kernel_rfl) ?_ _
      refine NoPanic.normal ?_
      all_goals
        go_wp2
        go_ret
        exact ⟨by rw [Hres.out]; rfl, on_drew Hb2.out⟩
  | true =>
    by_cases hm8 : u.v.mode = 8
    · have e1 : (u.v.mode == 8) = true := by rw [hm8]; rfl
      by_cases hk3 : u.v.kind = 3
      · have e2 : (u.v.kind != 3) = false := by rw [hk3]; rfl
        have Hop := Lib.hid (show openV true n.v u.v = n.v by unfold openV; rw [if_neg (by simp [hk3])])
        clear hm8 hk3
        go_wp2_with fail
        have Hb2 := Lib.hid Hb1.out
        have Hr2 := Lib.hid Hr1.out
        -- ROW OF THE VALUE: n.v in w1
        obtain ⟨rq, c39, c40, d39, d40, _, _⟩ := Hs.out w1 Hb2.out
        obtain ⟨vv, hvv⟩ : ∃ vv, vv = n.v := ⟨_, rfl⟩
        have hop : openV true n.v u.v = vv := by rw [hvv]; exact Hop.out
        have R2 := Hr2.out
        rw [← hvv] at R2
        have rb := rangeAt_row R2
        have hvl : vv.cells.length = 35 := vv.cells_length (by rw [← hop]; exact openV_wf Hv.out)
        have hsum : vv.sum.length = 32 := by have := openV_wf (o := true) (u := u.v) Hv.out; rw [hop] at this; exact this.1
        have heq : ∀ w, (Op.equalIn 10000 24 (.agg vv.cells.toArray) (.agg u.v.cells.toArray)).run Try.prog w = .ok (decide (vv = u.v)) w := fun w => eq_value vv u.v hsum Hv2.out.1 w
        have inf1 : (Try.prog.info? 24).map (·.size) = some vv.cells.length := by rw [hvl]; kernel_rfl
        have inf2 : (Try.prog.info? 24).map (·.size) = some u.v.cells.length := by rw [u.v.cells_length Hv2.out]; kernel_rfl
        have und24 := Try.underlying24
        have HKS : Hid (∀ w', Below w1.heap.size w1 w' → Below w1.heap.size w1 w' ∧ w'.rangeAt w.heap.size 0 vv.cells ∧ w'.rangeAt q 0 u.v.cells ∧ w'.cell? ⟨p, 39, none⟩ = some (.slice an m cn) ∧ w'.cell? ⟨q, 39, none⟩ = some (.slice bn m2 dn)) := fun w' h => by
          obtain ⟨e1, e2, _, e3, _⟩ := Hs.out w' (below_on Hb2.out h)
          exact ⟨h, rangeAt_kept rb (Upd.below h fun _ => False) id, e1, e2, e3⟩
        have Hkn := Lib.hid (Below.refl w1.heap.size w1)
        have Hop2 := Lib.hid hop
        have Hvv := Lib.hid hvv
        clear hop hvv R2 hvl hsum rb rq
        by_cases hne : vv = u.v
        · have hd : decide (vv = u.v) = true := decide_eq_true hne
          simp only [hd] at heq
          have Hne := Lib.hid hne
          clear hne hd
          have Heq := Lib.hid (fun wx (hx : Below w1.heap.size w1 wx) => sliceEq_any wx an bn cn dn m m2 (n.kids.map Nd.name) (u.kids.map Nd.name) (Hsn.out.below (below_on Hb2.out hx)) (Hsn2.out.below (below_on Hb2.out hx)) (by rw [List.length_map]; exact Hm.out.1.symm) (by rw [List.length_map]; exact Hm.out.2.symm))
          obtain ⟨bn', hbn'⟩ : ∃ b, b = decide (n.kids.map Nd.name = u.kids.map Nd.name) := ⟨_, rfl⟩
          rw [← hbn'] at Heq
          have Hbn := Lib.hid hbn'
          clear hbn'
          refine wp_region_noPanic ?_
          refine wp_region_held_drew (S := (fun w' => Below w1.heap.size w1 w' ∧ w'.rangeAt w.heap.size 0 vv.cells ∧ w'.rangeAt q 0 u.v.cells ∧ w'.cell? ⟨p, 39, none⟩ = some (.slice an m cn) ∧ w'.cell? ⟨q, 39, none⟩ = some (.slice bn m2 dn))) (by kernel_rfl) ?_ (fun hHeld => ?_)
          · (try dsimp only); (first | assumption | exact HKS.out _ (on_drew (Below.refl _ _)) | exact HKS.out _ Hkn1.out)
          refine' wpAnyH_take (i := 0) (v := _) rfl (by kernel_rfl) (by kernel_rfl) (by kernel_rfl) (fun _ _ _ h => h) (yieldsIf_load_mid (by rfl) _ _ rfl _ _ rfl _ _ ?hSBa0 ?huBa0 ?hdBa0 ?hiBa0) (by assumption) ?restBa1
          case hSBa0 => (intro w hSw; (try dsimp only at hSw); go_split_ands; assumption)
          case huBa0 => assumption
          case hdBa0 => rfl
          case hiBa0 => first | assumption | (simp only [*]; done)
          (try simp only [List.getElem_toArray, List.getElem_cons_succ, List.getElem_cons_zero, Act.put, List.setIfInBounds_toArray, List.set_cons_zero, List.set_cons_succ])
          refine wpAnyH_take (i := 1) (v := ?_) rfl (by kernel_rfl) (by kernel_rfl) (by kernel_rfl) (fun _ _ _ h => h) (Or.inl ⟨by rfl, ?_⟩) (by assumption) ?_
          rotate_left
          · intro w hSw; (try dsimp only at hSw); go_simp; (try with_reducible rfl)
          (try simp only [List.getElem_toArray, List.getElem_cons_succ, List.getElem_cons_zero, Act.put, List.setIfInBounds_toArray, List.set_cons_zero, List.set_cons_succ])
          refine wpAnyH_take (i := 2) (v := ?_) rfl (by kernel_rfl) (by kernel_rfl) (by kernel_rfl) (fun _ _ _ h => h) (Or.inl ⟨by rfl, ?_⟩) (by assumption) ?_
          rotate_left
          · intro w hSw; (try dsimp only at hSw); go_simp; (try with_reducible rfl)
          (try simp only [List.getElem_toArray, List.getElem_cons_succ, List.getElem_cons_zero, Act.put, List.setIfInBounds_toArray, List.set_cons_zero, List.set_cons_succ])
          refine wpAnyH_take (i := 3) (v := ?_) rfl (by kernel_rfl) (by kernel_rfl) (by kernel_rfl) (fun _ _ _ h => h) (Or.inl ⟨by rfl, ?_⟩) (by assumption) ?_
          rotate_left
          · intro w hSw; (try dsimp only at hSw); go_simp; (try with_reducible rfl)
          (try simp only [List.getElem_toArray, List.getElem_cons_succ, List.getElem_cons_zero, Act.put, List.setIfInBounds_toArray, List.set_cons_zero, List.set_cons_succ])
          refine' wpAnyH_take (i := 4) (v := _) rfl (by kernel_rfl) (by kernel_rfl) (by kernel_rfl) (fun _ _ _ h => h) (yieldsIf_load_mid (by rfl) _ _ rfl _ _ rfl _ _ ?hSBa4 ?huBa4 ?hdBa4 ?hiBa4) (by assumption) ?restBa2
          case hSBa4 => (intro w hSw; (try dsimp only at hSw); go_split_ands; assumption)
          case huBa4 => assumption
          case hdBa4 => rfl
          case hiBa4 => first | assumption | (simp only [*]; done)
          (try simp only [List.getElem_toArray, List.getElem_cons_succ, List.getElem_cons_zero, Act.put, List.setIfInBounds_toArray, List.set_cons_zero, List.set_cons_succ])
          refine wpAnyH_take (i := 5) (v := ?_) rfl (by kernel_rfl) (by kernel_rfl) (by kernel_rfl) (fun _ _ _ h => h) (Or.inl ⟨by rfl, ?_⟩) (by assumption) ?_
          rotate_left
          · intro w hSw; (try dsimp only at hSw); go_simp; (try with_reducible rfl)
          (try simp only [List.getElem_toArray, List.getElem_cons_succ, List.getElem_cons_zero, Act.put, List.setIfInBounds_toArray, List.set_cons_zero, List.set_cons_succ])
          refine wpAnyH_take (i := 6) (v := ?_) rfl (by kernel_rfl) (by kernel_rfl) (by kernel_rfl) (fun _ _ _ h => h) (Or.inl ⟨by rfl, ?_⟩) (by assumption) ?_
          rotate_left
          · intro w hSw; (try dsimp only at hSw); go_simp; (try with_reducible rfl)
          (try simp only [List.getElem_toArray, List.getElem_cons_succ, List.getElem_cons_zero, Act.put, List.setIfInBounds_toArray, List.set_cons_zero, List.set_cons_succ])
          refine wpAnyH_take (i := 7) (v := ?_) rfl (by kernel_rfl) (by kernel_rfl) (by kernel_rfl) (fun _ _ _ h => h) (Or.inl ⟨by rfl, ?_⟩) (by assumption) ?_
          rotate_left
          · intro w hSw; (try dsimp only at hSw); go_simp; (try with_reducible rfl)
          (try simp only [List.getElem_toArray, List.getElem_cons_succ, List.getElem_cons_zero, Act.put, List.setIfInBounds_toArray, List.set_cons_zero, List.set_cons_succ])
          refine wpAnyH_take (i := 8) (v := ?_) rfl (by kernel_rfl) (by kernel_rfl) (by kernel_rfl) (fun _ _ _ h => h) (Or.inl ⟨by rfl, ?_⟩) (by assumption) ?_
          rotate_left
          · intro w hSw; (try dsimp only at hSw); go_simp; (try with_reducible rfl)
          (try simp only [List.getElem_toArray, List.getElem_cons_succ, List.getElem_cons_zero, Act.put, List.setIfInBounds_toArray, List.set_cons_zero, List.set_cons_succ])
          refine wpAnyH_take (i := 9) (v := ?_) rfl (by kernel_rfl) (by kernel_rfl) (by kernel_rfl) (fun _ _ _ h => h) (Or.inl ⟨by rfl, ?_⟩) (by assumption) ?_
          rotate_left
          · intro w hSw; (try dsimp only at hSw); go_simp; (try with_reducible rfl)
          (try simp only [List.getElem_toArray, List.getElem_cons_succ, List.getElem_cons_zero, Act.put, List.setIfInBounds_toArray, List.set_cons_zero, List.set_cons_succ])
          refine wpAnyH_take (i := 10) (v := ?_) rfl (by kernel_rfl) (by kernel_rfl) (by kernel_rfl) (fun _ _ _ h => h) (Or.inl ⟨by rfl, ?_⟩) (by assumption) ?_
          rotate_left
          · intro w hSw; (try dsimp only at hSw); go_simp; (try with_reducible rfl)
          (try simp only [List.getElem_toArray, List.getElem_cons_succ, List.getElem_cons_zero, Act.put, List.setIfInBounds_toArray, List.set_cons_zero, List.set_cons_succ])
          refine wpAnyH_take (i := 11) (v := ?_) rfl (by kernel_rfl) (by kernel_rfl) (by kernel_rfl) (fun _ _ _ h => h) (Or.inl ⟨by rfl, ?_⟩) (by assumption) ?_
          rotate_left
          · intro w hSw; (try dsimp only at hSw); go_simp; (try with_reducible rfl)
          (try simp only [List.getElem_toArray, List.getElem_cons_succ, List.getElem_cons_zero, Act.put, List.setIfInBounds_toArray, List.set_cons_zero, List.set_cons_succ])
          refine wpAnyH_take (i := 12) (v := ?_) rfl (by kernel_rfl) (by kernel_rfl) (by kernel_rfl) (fun _ _ _ h => h) (Or.inl ⟨by rfl, ?_⟩) (by assumption) ?_
          rotate_left
          · intro w hSw; (try dsimp only at hSw); go_simp; (try with_reducible rfl)
          (try simp only [List.getElem_toArray, List.getElem_cons_succ, List.getElem_cons_zero, Act.put, List.setIfInBounds_toArray, List.set_cons_zero, List.set_cons_succ])
          refine wpAnyH_take (i := 13) (v := ?_) rfl (by kernel_rfl) (by kernel_rfl) (by kernel_rfl) (fun _ _ _ h => h) (Or.inl ⟨by rfl, ?_⟩) (by assumption) ?_
          rotate_left
          · intro w hSw; (try dsimp only at hSw); go_simp; (try with_reducible rfl)
          (try simp only [List.getElem_toArray, List.getElem_cons_succ, List.getElem_cons_zero, Act.put, List.setIfInBounds_toArray, List.set_cons_zero, List.set_cons_succ])
          refine wpAnyH_take (i := 14) (v := ?_) rfl (by kernel_rfl) (by kernel_rfl) (by kernel_rfl) (fun _ _ _ h => h) (Or.inl ⟨by rfl, ?_⟩) (by assumption) ?_
          rotate_left
          · intro w hSw; (try dsimp only at hSw); go_simp; (try with_reducible rfl)
          (try simp only [List.getElem_toArray, List.getElem_cons_succ, List.getElem_cons_zero, Act.put, List.setIfInBounds_toArray, List.set_cons_zero, List.set_cons_succ])
          refine wpAnyH_ready (rs := [15]) (by kernel_rfl) (by simp) ?_
          refine AllReadyH.cons rfl (fun K hK => ?_) ?_
          rotate_left
          · exact AllReadyH.nil
          go_simp
          refine (Heq.out _ (on_drew (Below.refl _ _))).mono ?_; rintro e wn ⟨rfl, hbn⟩; have Hkn1 := Lib.hid (below_on (on_drew (Below.refl w1.heap.size w1)) hbn); clear hbn
          (try go_wp2_with fail)
          refine hK.out _ _ ?_ (fun hHeld => ?_)
          · (try dsimp only); (first | assumption | exact HKS.out _ (on_drew (Below.refl _ _)) | exact HKS.out _ Hkn1.out)
          clear hK K
          (try simp only [List.getElem_toArray, List.getElem_cons_succ, List.getElem_cons_zero, Act.put, List.setIfInBounds_toArray, List.set_cons_zero, List.set_cons_succ])
          refine wpAnyH_take (i := 16) (v := ?_) rfl (by kernel_rfl) (by kernel_rfl) (by kernel_rfl) (fun _ _ _ h => h) (Or.inl ⟨by rfl, ?_⟩) (by assumption) ?_
          rotate_left
          · intro w hSw; (try dsimp only at hSw); go_simp; (try with_reducible rfl)
          (try simp only [List.getElem_toArray, List.getElem_cons_succ, List.getElem_cons_zero, Act.put, List.setIfInBounds_toArray, List.set_cons_zero, List.set_cons_succ])
          refine wpAnyH_take (i := 17) (v := ?_) rfl (by kernel_rfl) (by kernel_rfl) (by kernel_rfl) (fun _ _ _ h => h) (Or.inl ⟨by rfl, ?_⟩) (by assumption) ?_
          rotate_left
          · intro w hSw; (try dsimp only at hSw); go_simp; (try with_reducible rfl)
          (try simp only [List.getElem_toArray, List.getElem_cons_succ, List.getElem_cons_zero, Act.put, List.setIfInBounds_toArray, List.set_cons_zero, List.set_cons_succ])
          refine wpAnyH_done (by kernel_rfl) ?_ _
          refine NoPanic.normal ?_
          have Hbw := Lib.hid (below_on Hb2.out Hkn1.out)
          clear heq inf1 inf2 und24 HKS Heq Hkn
          cases bn' with
          | false =>
            have Hres := Lib.hid (show sameO true n u = false by rw [sameO_eq, Hop2.out, decide_eq_true Hne.out, ← Hbn.out]; rfl)
            go_wp2
            go_ret
            exact ⟨by rw [Hres.out]; rfl, Hbw.out⟩
          | true =>
            have hnm : n.kids.map Nd.name = u.kids.map Nd.name := of_decide_eq_true Hbn.out.symm
            have hmm : m2 = m := by
              have h := congrArg List.length hnm
              rw [List.length_map, List.length_map] at h
              rw [Hm.out.1, Hm.out.2, h]
            subst hmm
            have Hres := Lib.hid (show sameO true n u = sameKids true n.kids u.kids by rw [sameO_eq, Hop2.out, decide_eq_true Hne.out, ← Hbn.out]; rfl)
            obtain ⟨_, _, e40, _, g40, _, _⟩ := Hs.out wn Hbw.out
            clear hnm
            (try simp only [Bool.not_true, Bool.not_false])
            go_wp2_with fail
            go_loopw [63] (fun i wr => ∃ k : Nat, k ≤ m2 ∧ i = .int .i64 k ∧ Below w.heap.size w wr ∧ (∀ (i : Nat) (a b : Nd), i < k → n.kids[i]? = some a → u.kids[i]? = some b → sameO true a b = true)) (fun i _ => m2 - (intOf i).toNat)
            case atStart => exact ⟨0, Nat.zero_le _, rfl, Hbw.out, fun i a b h => absurd h (Nat.not_lt_zero _)⟩
            case round =>
              obtain ⟨k, hk, rfl, hbe, hall⟩ := hrel
              have Hbe := Lib.hid hbe
              have Hall := Lib.hid hall
              clear hbe hall e40 g40
              by_cases hlt : k < m2
              · have hk1 : k < n.kids.length := by rw [← Hm.out.1]; exact hlt
                have hk2 : k < u.kids.length := by rw [← Hm.out.2]; exact hlt
                have hp1 : k < ps.length := by rw [HT.out.1]; exact hk1
                have hp2 : k < qs.length := by rw [HT2.out.1]; exact hk2
                obtain ⟨a, ha⟩ : ∃ a, n.kids[k]? = some a := ⟨_, List.getElem?_eq_getElem hk1⟩
                obtain ⟨b, hb⟩ : ∃ b, u.kids[k]? = some b := ⟨_, List.getElem?_eq_getElem hk2⟩
                obtain ⟨x, hx⟩ : ∃ x, ps[k]? = some x := ⟨_, List.getElem?_eq_getElem hp1⟩
                obtain ⟨y, hy⟩ : ∃ y, qs[k]? = some y := ⟨_, List.getElem?_eq_getElem hp2⟩
                obtain ⟨g1, o1, rfl, _, cc1⟩ := (Hsk.out.below Hbe.out).open_ (by simp [ptrs]; omega)
                obtain ⟨g2, o2, rfl, _, cc2⟩ := (Hsk2.out.below Hbe.out).open_ (by simp [ptrs]; omega)
                have x1 := cc1 k (.pointer (some ⟨x, 0, none⟩)) (by simp [ptrs, hx])
                have x2 := cc2 k (.pointer (some ⟨y, 0, none⟩)) (by simp [ptrs, hy])
                obtain ⟨_, _, e40, _, g40, _, _⟩ := Hs.out wr Hbe.out
                have i1 : (0 : Int) ≤ (k : Int) := by omega
                have i2 : (k : Int) < (m2 : Int) := by omega
                have Hab := Lib.hid (And.intro ha hb)
                have hcall := Ih.out F G wr.drew x y a b ((HT.out.2 k x a hx ha).2.below (on_drew Hbe.out)) ((HT2.out.2 k y b hy hb).2.below (on_drew Hbe.out))
                obtain ⟨sb, hsb⟩ : ∃ sb, sb = sameO true a b := ⟨_, rfl⟩
                rw [← hsb] at hcall
                have Hcall := Lib.hid hcall
                have Hsb := Lib.hid hsb
                clear hk1 hk2 hp1 hp2 ha hb hx hy cc1 cc2 hcall hsb
                go_wp2_with fail
                go_still_tail 15, (by kernel_rfl)
                change wpList _ _ _ _ _ wr.drew
                go_wp2_with fail
                refine Hcall.out.mono ?_
                rintro e5 w5 ⟨rfl, hb5⟩
                have Hb5 := Lib.hid ((on_drew Hbe.out).trans (hb5.mono Hbe.out.size))
                clear hb5 Hcall
                cases sb with
                | false =>
                  have Hf := Lib.hid (show sameKids true n.kids u.kids = false by
                    rw [Bool.eq_false_iff]
                    intro h
                    have := (sameKids_iff true _ _).1 h k a b Hab.out.1 Hab.out.2
                    rw [← Hsb.out] at this
                    cases this)
                  go_wp2
                  go_ret
                  exact ⟨by rw [Hres.out, Hf.out]; rfl, Hb5.out⟩
                | true =>
                  go_wp2
                  go_roundw
                  case rel =>
                    refine ⟨k + 1, hlt, by go_num, Hb5.out, fun i a' b' hi ha' hb' => ?_⟩
                    by_cases hik : i = k
                    · subst hik
                      rw [Hab.out.1] at ha'
                      rw [Hab.out.2] at hb'
                      injection ha' with ha'
                      injection hb' with hb'
                      rw [← ha', ← hb']; exact Hsb.out.symm
                    · exact Hall.out i a' b' (by omega) ha' hb'
                  case measure => simp [intOf]; omega
              · obtain rfl : k = m2 := by omega
                have Hf := Lib.hid (show sameKids true n.kids u.kids = true from (sameKids_iff true _ _).2 fun i a b ha hb => Hall.out i a b (by rw [Hm.out.1]; exact (List.getElem?_eq_some_iff.1 ha).1) ha hb)
                clear hlt
                go_wp2
                go_ret
                exact ⟨by rw [Hres.out, Hf.out]; rfl, Hbe.out⟩
        · have hd : decide (vv = u.v) = false := decide_eq_false hne
          simp only [hd] at heq
          have Hres := Lib.hid (show sameO true n u = false by rw [sameO_eq, Hop2.out, hd]; rfl)
          clear hne hd
          refine wp_region_noPanic ?_
          refine wp_region_held_drew (S := (fun w' => Below w1.heap.size w1 w' ∧ w'.rangeAt w.heap.size 0 vv.cells ∧ w'.rangeAt q 0 u.v.cells ∧ w'.cell? ⟨p, 39, none⟩ = some (.slice an m cn) ∧ w'.cell? ⟨q, 39, none⟩ = some (.slice bn m2 dn))) (by kernel_rfl) ?_ (fun hHeld => ?_)
          · (try dsimp only); (first | assumption | exact HKS.out _ (on_drew (Below.refl _ _)) | exact HKS.out _ Hkn1.out)
          refine' wpAnyH_take (i := 0) (v := _) rfl (by kernel_rfl) (by kernel_rfl) (by kernel_rfl) (fun _ _ _ h => h) (yieldsIf_load_mid (by rfl) _ _ rfl _ _ rfl _ _ ?hSBb0 ?huBb0 ?hdBb0 ?hiBb0) (by assumption) ?restBb1
          case hSBb0 => (intro w hSw; (try dsimp only at hSw); go_split_ands; assumption)
          case huBb0 => assumption
          case hdBb0 => rfl
          case hiBb0 => first | assumption | (simp only [*]; done)
          (try simp only [List.getElem_toArray, List.getElem_cons_succ, List.getElem_cons_zero, Act.put, List.setIfInBounds_toArray, List.set_cons_zero, List.set_cons_succ])
          refine wpAnyH_take (i := 1) (v := ?_) rfl (by kernel_rfl) (by kernel_rfl) (by kernel_rfl) (fun _ _ _ h => h) (Or.inl ⟨by rfl, ?_⟩) (by assumption) ?_
          rotate_left
          · intro w hSw; (try dsimp only at hSw); go_simp; (try with_reducible rfl)
          (try simp only [List.getElem_toArray, List.getElem_cons_succ, List.getElem_cons_zero, Act.put, List.setIfInBounds_toArray, List.set_cons_zero, List.set_cons_succ])
          refine wpAnyH_take (i := 2) (v := ?_) rfl (by kernel_rfl) (by kernel_rfl) (by kernel_rfl) (fun _ _ _ h => h) (Or.inl ⟨by rfl, ?_⟩) (by assumption) ?_
          rotate_left
          · intro w hSw; (try dsimp only at hSw); go_simp; (try with_reducible rfl)
          (try simp only [List.getElem_toArray, List.getElem_cons_succ, List.getElem_cons_zero, Act.put, List.setIfInBounds_toArray, List.set_cons_zero, List.set_cons_succ])
          refine wpAnyH_take (i := 3) (v := ?_) rfl (by kernel_rfl) (by kernel_rfl) (by kernel_rfl) (fun _ _ _ h => h) (Or.inl ⟨by rfl, ?_⟩) (by assumption) ?_
          rotate_left
          · intro w hSw; (try dsimp only at hSw); go_simp; (try with_reducible rfl)
          (try simp only [List.getElem_toArray, List.getElem_cons_succ, List.getElem_cons_zero, Act.put, List.setIfInBounds_toArray, List.set_cons_zero, List.set_cons_succ])
          refine' wpAnyH_take (i := 4) (v := _) rfl (by kernel_rfl) (by kernel_rfl) (by kernel_rfl) (fun _ _ _ h => h) (yieldsIf_load_mid (by rfl) _ _ rfl _ _ rfl _ _ ?hSBb4 ?huBb4 ?hdBb4 ?hiBb4) (by assumption) ?restBb2
          case hSBb4 => (intro w hSw; (try dsimp only at hSw); go_split_ands; assumption)
          case huBb4 => assumption
          case hdBb4 => rfl
          case hiBb4 => first | assumption | (simp only [*]; done)
          (try simp only [List.getElem_toArray, List.getElem_cons_succ, List.getElem_cons_zero, Act.put, List.setIfInBounds_toArray, List.set_cons_zero, List.set_cons_succ])
          refine wpAnyH_take (i := 5) (v := ?_) rfl (by kernel_rfl) (by kernel_rfl) (by kernel_rfl) (fun _ _ _ h => h) (Or.inl ⟨by rfl, ?_⟩) (by assumption) ?_
          rotate_left
          · intro w hSw; (try dsimp only at hSw); go_simp; (try with_reducible rfl)
          (try simp only [List.getElem_toArray, List.getElem_cons_succ, List.getElem_cons_zero, Act.put, List.setIfInBounds_toArray, List.set_cons_zero, List.set_cons_succ])
          refine wpAnyH_take (i := 6) (v := ?_) rfl (by kernel_rfl) (by kernel_rfl) (by kernel_rfl) (fun _ _ _ h => h) (Or.inl ⟨by rfl, ?_⟩) (by assumption) ?_
          rotate_left
          · intro w hSw; (try dsimp only at hSw); go_simp; (try with_reducible rfl)
          (try simp only [List.getElem_toArray, List.getElem_cons_succ, List.getElem_cons_zero, Act.put, List.setIfInBounds_toArray, List.set_cons_zero, List.set_cons_succ])
          refine wpAnyH_take (i := 7) (v := undef) rfl (by kernel_rfl) (by kernel_rfl) (by kernel_rfl) (fun _ _ _ h => h) (Or.inr ⟨by rfl, rfl⟩) (by assumption) ?_
          (try simp only [List.getElem_toArray, List.getElem_cons_succ, List.getElem_cons_zero, Act.put, List.setIfInBounds_toArray, List.set_cons_zero, List.set_cons_succ])
          refine wpAnyH_take (i := 8) (v := undef) rfl (by kernel_rfl) (by kernel_rfl) (by kernel_rfl) (fun _ _ _ h => h) (Or.inr ⟨by rfl, rfl⟩) (by assumption) ?_
          (try simp only [List.getElem_toArray, List.getElem_cons_succ, List.getElem_cons_zero, Act.put, List.setIfInBounds_toArray, List.set_cons_zero, List.set_cons_succ])
          refine wpAnyH_take (i := 9) (v := undef) rfl (by kernel_rfl) (by kernel_rfl) (by kernel_rfl) (fun _ _ _ h => h) (Or.inr ⟨by rfl, rfl⟩) (by assumption) ?_
          (try simp only [List.getElem_toArray, List.getElem_cons_succ, List.getElem_cons_zero, Act.put, List.setIfInBounds_toArray, List.set_cons_zero, List.set_cons_succ])
          refine wpAnyH_take (i := 10) (v := undef) rfl (by kernel_rfl) (by kernel_rfl) (by kernel_rfl) (fun _ _ _ h => h) (Or.inr ⟨by rfl, rfl⟩) (by assumption) ?_
          (try simp only [List.getElem_toArray, List.getElem_cons_succ, List.getElem_cons_zero, Act.put, List.setIfInBounds_toArray, List.set_cons_zero, List.set_cons_succ])
          refine wpAnyH_take (i := 11) (v := undef) rfl (by kernel_rfl) (by kernel_rfl) (by kernel_rfl) (fun _ _ _ h => h) (Or.inr ⟨by rfl, rfl⟩) (by assumption) ?_
          (try simp only [List.getElem_toArray, List.getElem_cons_succ, List.getElem_cons_zero, Act.put, List.setIfInBounds_toArray, List.set_cons_zero, List.set_cons_succ])
          refine wpAnyH_take (i := 12) (v := undef) rfl (by kernel_rfl) (by kernel_rfl) (by kernel_rfl) (fun _ _ _ h => h) (Or.inr ⟨by rfl, rfl⟩) (by assumption) ?_
          (try simp only [List.getElem_toArray, List.getElem_cons_succ, List.getElem_cons_zero, Act.put, List.setIfInBounds_toArray, List.set_cons_zero, List.set_cons_succ])
          refine wpAnyH_take (i := 13) (v := undef) rfl (by kernel_rfl) (by kernel_rfl) (by kernel_rfl) (fun _ _ _ h => h) (Or.inr ⟨by rfl, rfl⟩) (by assumption) ?_
          (try simp only [List.getElem_toArray, List.getElem_cons_succ, List.getElem_cons_zero, Act.put, List.setIfInBounds_toArray, List.set_cons_zero, List.set_cons_succ])
          refine wpAnyH_take (i := 14) (v := undef) rfl (by kernel_rfl) (by kernel_rfl) (by kernel_rfl) (fun _ _ _ h => h) (Or.inr ⟨by rfl, rfl⟩) (by assumption) ?_
          (try simp only [List.getElem_toArray, List.getElem_cons_succ, List.getElem_cons_zero, Act.put, List.setIfInBounds_toArray, List.set_cons_zero, List.set_cons_succ])
          refine wpAnyH_take (i := 15) (v := undef) rfl (by kernel_rfl) (by kernel_rfl) (by kernel_rfl) (fun _ _ _ h => h) (Or.inr ⟨by rfl, rfl⟩) (by assumption) ?_
          (try simp only [List.getElem_toArray, List.getElem_cons_succ, List.getElem_cons_zero, Act.put, List.setIfInBounds_toArray, List.set_cons_zero, List.set_cons_succ])
          refine wpAnyH_take (i := 16) (v := undef) rfl (by kernel_rfl) (by kernel_rfl) (by kernel_rfl) (fun _ _ _ h => h) (Or.inr ⟨by rfl, rfl⟩) (by assumption) ?_
          (try simp only [List.getElem_toArray, List.getElem_cons_succ, List.getElem_cons_zero, Act.put, List.setIfInBounds_toArray, List.set_cons_zero, List.set_cons_succ])
          refine wpAnyH_take (i := 17) (v := ?_) rfl (by kernel_rfl) (by kernel_rfl) (by kernel_rfl) (fun _ _ _ h => h) (Or.inl ⟨by rfl, ?_⟩) (by assumption) ?_
          rotate_left
          · intro w hSw; (try dsimp only at hSw); go_simp; (try with_reducible rfl)
          (try simp only [List.getElem_toArray, List.getElem_cons_succ, List.getElem_cons_zero, Act.put, List.setIfInBounds_toArray, List.set_cons_zero, List.set_cons_succ])
          refine wpAnyH_done (by kernel_rfl) ?_ _
          refine NoPanic.normal ?_
          all_goals
            go_wp2
            go_ret
            exact ⟨by rw [Hres.out]; rfl, on_drew Hb2.out⟩
      · have e2 : (u.v.kind != 3) = true := by rw [bne_iff_ne]; exact hk3
        have Hop := Lib.hid (show openV true n.v u.v = ⟨n.v.kind, 8, n.v.size, n.v.sum⟩ by unfold openV; rw [if_pos ⟨rfl, hm8, hk3⟩])
        have zf := frozen_of_row w1 w.heap.size 1 _ _ Hr1.out
        have zc : w1.cell? ⟨w.heap.size, 1, none⟩ = some (.int .i64 n.v.mode) := by rw [cell_of_row w1 _ 1 _ _ _ Hr1.out]; rfl
        have hs2 := heap_setCell_same w1 w.heap.size 1 _ _ (.int .i64 8) Hr1.out
        rw [cells_set1] at hs2
        have hu2 : Upd (fun b => b = w.heap.size) w1 (w1.setCell ⟨w.heap.size, 1, none⟩ (.int .i64 8)) := (Upd.refl _ _).setCell _ _ (fun _ => rfl)
        obtain ⟨w2, hw2⟩ : ∃ w2, w2 = w1.setCell ⟨w.heap.size, 1, none⟩ (.int .i64 8) := ⟨_, rfl⟩
        rw [← hw2] at hs2 hu2
        have Hr2 := Lib.hid hs2
        have Hb2 := Lib.hid (Hb1.out.upd (Nat.le_refl _) hu2 (fun b hb => by omega))
        have Hw2 := Lib.hid hw2
        clear hm8 hk3 hs2 hu2 hw2
        go_wp2_with fail
        rw [← Hw2.out]
        clear zf zc dk0 dm0 Hw2
        -- ROW OF THE VALUE: (⟨n.v.kind, 8, n.v.size, n.v.sum⟩ : Vl) in w2
        obtain ⟨rq, c39, c40, d39, d40, _, _⟩ := Hs.out w2 Hb2.out
        obtain ⟨vv, hvv⟩ : ∃ vv, vv = (⟨n.v.kind, 8, n.v.size, n.v.sum⟩ : Vl) := ⟨_, rfl⟩
        have hop : openV true n.v u.v = vv := by rw [hvv]; exact Hop.out
        have R2 := Hr2.out
        rw [← hvv] at R2
        have rb := rangeAt_row R2
        have hvl : vv.cells.length = 35 := vv.cells_length (by rw [← hop]; exact openV_wf Hv.out)
        have hsum : vv.sum.length = 32 := by have := openV_wf (o := true) (u := u.v) Hv.out; rw [hop] at this; exact this.1
        have heq : ∀ w, (Op.equalIn 10000 24 (.agg vv.cells.toArray) (.agg u.v.cells.toArray)).run Try.prog w = .ok (decide (vv = u.v)) w := fun w => eq_value vv u.v hsum Hv2.out.1 w
        have inf1 : (Try.prog.info? 24).map (·.size) = some vv.cells.length := by rw [hvl]; kernel_rfl
        have inf2 : (Try.prog.info? 24).map (·.size) = some u.v.cells.length := by rw [u.v.cells_length Hv2.out]; kernel_rfl
        have und24 := Try.underlying24
        have HKS : Hid (∀ w', Below w2.heap.size w2 w' → Below w2.heap.size w2 w' ∧ w'.rangeAt w.heap.size 0 vv.cells ∧ w'.rangeAt q 0 u.v.cells ∧ w'.cell? ⟨p, 39, none⟩ = some (.slice an m cn) ∧ w'.cell? ⟨q, 39, none⟩ = some (.slice bn m2 dn)) := fun w' h => by
          obtain ⟨e1, e2, _, e3, _⟩ := Hs.out w' (below_on Hb2.out h)
          exact ⟨h, rangeAt_kept rb (Upd.below h fun _ => False) id, e1, e2, e3⟩
        have Hkn := Lib.hid (Below.refl w2.heap.size w2)
        have Hop2 := Lib.hid hop
        have Hvv := Lib.hid hvv
        clear hop hvv R2 hvl hsum rb rq
        by_cases hne : vv = u.v
        · have hd : decide (vv = u.v) = true := decide_eq_true hne
          simp only [hd] at heq
          have Hne := Lib.hid hne
          clear hne hd
          have Heq := Lib.hid (fun wx (hx : Below w2.heap.size w2 wx) => sliceEq_any wx an bn cn dn m m2 (n.kids.map Nd.name) (u.kids.map Nd.name) (Hsn.out.below (below_on Hb2.out hx)) (Hsn2.out.below (below_on Hb2.out hx)) (by rw [List.length_map]; exact Hm.out.1.symm) (by rw [List.length_map]; exact Hm.out.2.symm))
          obtain ⟨bn', hbn'⟩ : ∃ b, b = decide (n.kids.map Nd.name = u.kids.map Nd.name) := ⟨_, rfl⟩
          rw [← hbn'] at Heq
          have Hbn := Lib.hid hbn'
          clear hbn'
          refine wp_region_noPanic ?_
          refine wp_region_held_drew (S := (fun w' => Below w2.heap.size w2 w' ∧ w'.rangeAt w.heap.size 0 vv.cells ∧ w'.rangeAt q 0 u.v.cells ∧ w'.cell? ⟨p, 39, none⟩ = some (.slice an m cn) ∧ w'.cell? ⟨q, 39, none⟩ = some (.slice bn m2 dn))) (by kernel_rfl) ?_ (fun hHeld => ?_)
          · (try dsimp only); (first | assumption | exact HKS.out _ (on_drew (Below.refl _ _)) | exact HKS.out _ Hkn1.out)
          refine' wpAnyH_take (i := 0) (v := _) rfl (by kernel_rfl) (by kernel_rfl) (by kernel_rfl) (fun _ _ _ h => h) (yieldsIf_load_mid (by rfl) _ _ rfl _ _ rfl _ _ ?hSCa0 ?huCa0 ?hdCa0 ?hiCa0) (by assumption) ?restCa1
          case hSCa0 => (intro w hSw; (try dsimp only at hSw); go_split_ands; assumption)
          case huCa0 => assumption
          case hdCa0 => rfl
          case hiCa0 => first | assumption | (simp only [*]; done)
          (try simp only [List.getElem_toArray, List.getElem_cons_succ, List.getElem_cons_zero, Act.put, List.setIfInBounds_toArray, List.set_cons_zero, List.set_cons_succ])
          refine wpAnyH_take (i := 1) (v := ?_) rfl (by kernel_rfl) (by kernel_rfl) (by kernel_rfl) (fun _ _ _ h => h) (Or.inl ⟨by rfl, ?_⟩) (by assumption) ?_
          rotate_left
          · intro w hSw; (try dsimp only at hSw); go_simp; (try with_reducible rfl)
          (try simp only [List.getElem_toArray, List.getElem_cons_succ, List.getElem_cons_zero, Act.put, List.setIfInBounds_toArray, List.set_cons_zero, List.set_cons_succ])
          refine wpAnyH_take (i := 2) (v := ?_) rfl (by kernel_rfl) (by kernel_rfl) (by kernel_rfl) (fun _ _ _ h => h) (Or.inl ⟨by rfl, ?_⟩) (by assumption) ?_
          rotate_left
          · intro w hSw; (try dsimp only at hSw); go_simp; (try with_reducible rfl)
          (try simp only [List.getElem_toArray, List.getElem_cons_succ, List.getElem_cons_zero, Act.put, List.setIfInBounds_toArray, List.set_cons_zero, List.set_cons_succ])
          refine wpAnyH_take (i := 3) (v := ?_) rfl (by kernel_rfl) (by kernel_rfl) (by kernel_rfl) (fun _ _ _ h => h) (Or.inl ⟨by rfl, ?_⟩) (by assumption) ?_
          rotate_left
          · intro w hSw; (try dsimp only at hSw); go_simp; (try with_reducible rfl)
          (try simp only [List.getElem_toArray, List.getElem_cons_succ, List.getElem_cons_zero, Act.put, List.setIfInBounds_toArray, List.set_cons_zero, List.set_cons_succ])
          refine' wpAnyH_take (i := 4) (v := _) rfl (by kernel_rfl) (by kernel_rfl) (by kernel_rfl) (fun _ _ _ h => h) (yieldsIf_load_mid (by rfl) _ _ rfl _ _ rfl _ _ ?hSCa4 ?huCa4 ?hdCa4 ?hiCa4) (by assumption) ?restCa2
          case hSCa4 => (intro w hSw; (try dsimp only at hSw); go_split_ands; assumption)
          case huCa4 => assumption
          case hdCa4 => rfl
          case hiCa4 => first | assumption | (simp only [*]; done)
          (try simp only [List.getElem_toArray, List.getElem_cons_succ, List.getElem_cons_zero, Act.put, List.setIfInBounds_toArray, List.set_cons_zero, List.set_cons_succ])
          refine wpAnyH_take (i := 5) (v := ?_) rfl (by kernel_rfl) (by kernel_rfl) (by kernel_rfl) (fun _ _ _ h => h) (Or.inl ⟨by rfl, ?_⟩) (by assumption) ?_
          rotate_left
          · intro w hSw; (try dsimp only at hSw); go_simp; (try with_reducible rfl)
          (try simp only [List.getElem_toArray, List.getElem_cons_succ, List.getElem_cons_zero, Act.put, List.setIfInBounds_toArray, List.set_cons_zero, List.set_cons_succ])
          refine wpAnyH_take (i := 6) (v := ?_) rfl (by kernel_rfl) (by kernel_rfl) (by kernel_rfl) (fun _ _ _ h => h) (Or.inl ⟨by rfl, ?_⟩) (by assumption) ?_
          rotate_left
          · intro w hSw; (try dsimp only at hSw); go_simp; (try with_reducible rfl)
          (try simp only [List.getElem_toArray, List.getElem_cons_succ, List.getElem_cons_zero, Act.put, List.setIfInBounds_toArray, List.set_cons_zero, List.set_cons_succ])
          refine wpAnyH_take (i := 7) (v := ?_) rfl (by kernel_rfl) (by kernel_rfl) (by kernel_rfl) (fun _ _ _ h => h) (Or.inl ⟨by rfl, ?_⟩) (by assumption) ?_
          rotate_left
          · intro w hSw; (try dsimp only at hSw); go_simp; (try with_reducible rfl)
          (try simp only [List.getElem_toArray, List.getElem_cons_succ, List.getElem_cons_zero, Act.put, List.setIfInBounds_toArray, List.set_cons_zero, List.set_cons_succ])
          refine wpAnyH_take (i := 8) (v := ?_) rfl (by kernel_rfl) (by kernel_rfl) (by kernel_rfl) (fun _ _ _ h => h) (Or.inl ⟨by rfl, ?_⟩) (by assumption) ?_
          rotate_left
          · intro w hSw; (try dsimp only at hSw); go_simp; (try with_reducible rfl)
          (try simp only [List.getElem_toArray, List.getElem_cons_succ, List.getElem_cons_zero, Act.put, List.setIfInBounds_toArray, List.set_cons_zero, List.set_cons_succ])
          refine wpAnyH_take (i := 9) (v := ?_) rfl (by kernel_rfl) (by kernel_rfl) (by kernel_rfl) (fun _ _ _ h => h) (Or.inl ⟨by rfl, ?_⟩) (by assumption) ?_
          rotate_left
          · intro w hSw; (try dsimp only at hSw); go_simp; (try with_reducible rfl)
          (try simp only [List.getElem_toArray, List.getElem_cons_succ, List.getElem_cons_zero, Act.put, List.setIfInBounds_toArray, List.set_cons_zero, List.set_cons_succ])
          refine wpAnyH_take (i := 10) (v := ?_) rfl (by kernel_rfl) (by kernel_rfl) (by kernel_rfl) (fun _ _ _ h => h) (Or.inl ⟨by rfl, ?_⟩) (by assumption) ?_
          rotate_left
          · intro w hSw; (try dsimp only at hSw); go_simp; (try with_reducible rfl)
          (try simp only [List.getElem_toArray, List.getElem_cons_succ, List.getElem_cons_zero, Act.put, List.setIfInBounds_toArray, List.set_cons_zero, List.set_cons_succ])
          refine wpAnyH_take (i := 11) (v := ?_) rfl (by kernel_rfl) (by kernel_rfl) (by kernel_rfl) (fun _ _ _ h => h) (Or.inl ⟨by rfl, ?_⟩) (by assumption) ?_
          rotate_left
          · intro w hSw; (try dsimp only at hSw); go_simp; (try with_reducible rfl)
          (try simp only [List.getElem_toArray, List.getElem_cons_succ, List.getElem_cons_zero, Act.put, List.setIfInBounds_toArray, List.set_cons_zero, List.set_cons_succ])
          refine wpAnyH_take (i := 12) (v := ?_) rfl (by kernel_rfl) (by kernel_rfl) (by kernel_rfl) (fun _ _ _ h => h) (Or.inl ⟨by rfl, ?_⟩) (by assumption) ?_
          rotate_left
          · intro w hSw; (try dsimp only at hSw); go_simp; (try with_reducible rfl)
          (try simp only [List.getElem_toArray, List.getElem_cons_succ, List.getElem_cons_zero, Act.put, List.setIfInBounds_toArray, List.set_cons_zero, List.set_cons_succ])
          refine wpAnyH_take (i := 13) (v := ?_) rfl (by kernel_rfl) (by kernel_rfl) (by kernel_rfl) (fun _ _ _ h => h) (Or.inl ⟨by rfl, ?_⟩) (by assumption) ?_
          rotate_left
          · intro w hSw; (try dsimp only at hSw); go_simp; (try with_reducible rfl)
          (try simp only [List.getElem_toArray, List.getElem_cons_succ, List.getElem_cons_zero, Act.put, List.setIfInBounds_toArray, List.set_cons_zero, List.set_cons_succ])
          refine wpAnyH_take (i := 14) (v := ?_) rfl (by kernel_rfl) (by kernel_rfl) (by kernel_rfl) (fun _ _ _ h => h) (Or.inl ⟨by rfl, ?_⟩) (by assumption) ?_
          rotate_left
          · intro w hSw; (try dsimp only at hSw); go_simp; (try with_reducible rfl)
          (try simp only [List.getElem_toArray, List.getElem_cons_succ, List.getElem_cons_zero, Act.put, List.setIfInBounds_toArray, List.set_cons_zero, List.set_cons_succ])
          refine wpAnyH_ready (rs := [15]) (by kernel_rfl) (by simp) ?_
          refine AllReadyH.cons rfl (fun K hK => ?_) ?_
          rotate_left
          · exact AllReadyH.nil
          go_simp
          refine (Heq.out _ (on_drew (Below.refl _ _))).mono ?_; rintro e wn ⟨rfl, hbn⟩; have Hkn1 := Lib.hid (below_on (on_drew (Below.refl w2.heap.size w2)) hbn); clear hbn
          (try go_wp2_with fail)
          refine hK.out _ _ ?_ (fun hHeld => ?_)
          · (try dsimp only); (first | assumption | exact HKS.out _ (on_drew (Below.refl _ _)) | exact HKS.out _ Hkn1.out)
          clear hK K
          (try simp only [List.getElem_toArray, List.getElem_cons_succ, List.getElem_cons_zero, Act.put, List.setIfInBounds_toArray, List.set_cons_zero, List.set_cons_succ])
          refine wpAnyH_take (i := 16) (v := ?_) rfl (by kernel_rfl) (by kernel_rfl) (by kernel_rfl) (fun _ _ _ h => h) (Or.inl ⟨by rfl, ?_⟩) (by assumption) ?_
          rotate_left
          · intro w hSw; (try dsimp only at hSw); go_simp; (try with_reducible rfl)
          (try simp only [List.getElem_toArray, List.getElem_cons_succ, List.getElem_cons_zero, Act.put, List.setIfInBounds_toArray, List.set_cons_zero, List.set_cons_succ])
          refine wpAnyH_take (i := 17) (v := ?_) rfl (by kernel_rfl) (by kernel_rfl) (by kernel_rfl) (fun _ _ _ h => h) (Or.inl ⟨by rfl, ?_⟩) (by assumption) ?_
          rotate_left
          · intro w hSw; (try dsimp only at hSw); go_simp; (try with_reducible rfl)
          (try simp only [List.getElem_toArray, List.getElem_cons_succ, List.getElem_cons_zero, Act.put, List.setIfInBounds_toArray, List.set_cons_zero, List.set_cons_succ])
          refine wpAnyH_done (by kernel_rfl) ?_ _
          refine NoPanic.normal ?_
          have Hbw := Lib.hid (below_on Hb2.out Hkn1.out)
          clear heq inf1 inf2 und24 HKS Heq Hkn
          cases bn' with
          | false =>
            have Hres := Lib.hid (show sameO true n u = false by rw [sameO_eq, Hop2.out, decide_eq_true Hne.out, ← Hbn.out]; rfl)
            go_wp2
            go_ret
            exact ⟨by rw [Hres.out]; rfl, Hbw.out⟩
          | true =>
            have hnm : n.kids.map Nd.name = u.kids.map Nd.name := of_decide_eq_true Hbn.out.symm
            have hmm : m2 = m := by
              have h := congrArg List.length hnm
              rw [List.length_map, List.length_map] at h
              rw [Hm.out.1, Hm.out.2, h]
            subst hmm
            have Hres := Lib.hid (show sameO true n u = sameKids true n.kids u.kids by rw [sameO_eq, Hop2.out, decide_eq_true Hne.out, ← Hbn.out]; rfl)
            obtain ⟨_, _, e40, _, g40, _, _⟩ := Hs.out wn Hbw.out
            clear hnm
            (try simp only [Bool.not_true, Bool.not_false])
            go_wp2_with fail
            go_loopw [63] (fun i wr => ∃ k : Nat, k ≤ m2 ∧ i = .int .i64 k ∧ Below w.heap.size w wr ∧ (∀ (i : Nat) (a b : Nd), i < k → n.kids[i]? = some a → u.kids[i]? = some b → sameO true a b = true)) (fun i _ => m2 - (intOf i).toNat)
            case atStart => exact ⟨0, Nat.zero_le _, rfl, Hbw.out, fun i a b h => absurd h (Nat.not_lt_zero _)⟩
            case round =>
              obtain ⟨k, hk, rfl, hbe, hall⟩ := hrel
              have Hbe := Lib.hid hbe
              have Hall := Lib.hid hall
              clear hbe hall e40 g40
              by_cases hlt : k < m2
              · have hk1 : k < n.kids.length := by rw [← Hm.out.1]; exact hlt
                have hk2 : k < u.kids.length := by rw [← Hm.out.2]; exact hlt
                have hp1 : k < ps.length := by rw [HT.out.1]; exact hk1
                have hp2 : k < qs.length := by rw [HT2.out.1]; exact hk2
                obtain ⟨a, ha⟩ : ∃ a, n.kids[k]? = some a := ⟨_, List.getElem?_eq_getElem hk1⟩
                obtain ⟨b, hb⟩ : ∃ b, u.kids[k]? = some b := ⟨_, List.getElem?_eq_getElem hk2⟩
                obtain ⟨x, hx⟩ : ∃ x, ps[k]? = some x := ⟨_, List.getElem?_eq_getElem hp1⟩
                obtain ⟨y, hy⟩ : ∃ y, qs[k]? = some y := ⟨_, List.getElem?_eq_getElem hp2⟩
                obtain ⟨g1, o1, rfl, _, cc1⟩ := (Hsk.out.below Hbe.out).open_ (by simp [ptrs]; omega)
                obtain ⟨g2, o2, rfl, _, cc2⟩ := (Hsk2.out.below Hbe.out).open_ (by simp [ptrs]; omega)
                have x1 := cc1 k (.pointer (some ⟨x, 0, none⟩)) (by simp [ptrs, hx])
                have x2 := cc2 k (.pointer (some ⟨y, 0, none⟩)) (by simp [ptrs, hy])
                obtain ⟨_, _, e40, _, g40, _, _⟩ := Hs.out wr Hbe.out
                have i1 : (0 : Int) ≤ (k : Int) := by omega
                have i2 : (k : Int) < (m2 : Int) := by omega
                have Hab := Lib.hid (And.intro ha hb)
                have hcall := Ih.out F G wr.drew x y a b ((HT.out.2 k x a hx ha).2.below (on_drew Hbe.out)) ((HT2.out.2 k y b hy hb).2.below (on_drew Hbe.out))
                obtain ⟨sb, hsb⟩ : ∃ sb, sb = sameO true a b := ⟨_, rfl⟩
                rw [← hsb] at hcall
                have Hcall := Lib.hid hcall
                have Hsb := Lib.hid hsb
                clear hk1 hk2 hp1 hp2 ha hb hx hy cc1 cc2 hcall hsb
                go_wp2_with fail
                go_still_tail 15, (by kernel_rfl)
                change wpList _ _ _ _ _ wr.drew
                go_wp2_with fail
                refine Hcall.out.mono ?_
                rintro e5 w5 ⟨rfl, hb5⟩
                have Hb5 := Lib.hid ((on_drew Hbe.out).trans (hb5.mono Hbe.out.size))
                clear hb5 Hcall
                cases sb with
                | false =>
                  have Hf := Lib.hid (show sameKids true n.kids u.kids = false by
                    rw [Bool.eq_false_iff]
                    intro h
                    have := (sameKids_iff true _ _).1 h k a b Hab.out.1 Hab.out.2
                    rw [← Hsb.out] at this
                    cases this)
                  go_wp2
                  go_ret
                  exact ⟨by rw [Hres.out, Hf.out]; rfl, Hb5.out⟩
                | true =>
                  go_wp2
                  go_roundw
                  case rel =>
                    refine ⟨k + 1, hlt, by go_num, Hb5.out, fun i a' b' hi ha' hb' => ?_⟩
                    by_cases hik : i = k
                    · subst hik
                      rw [Hab.out.1] at ha'
                      rw [Hab.out.2] at hb'
                      injection ha' with ha'
                      injection hb' with hb'
                      rw [← ha', ← hb']; exact Hsb.out.symm
                    · exact Hall.out i a' b' (by omega) ha' hb'
                  case measure => simp [intOf]; omega
              · obtain rfl : k = m2 := by omega
                have Hf := Lib.hid (show sameKids true n.kids u.kids = true from (sameKids_iff true _ _).2 fun i a b ha hb => Hall.out i a b (by rw [Hm.out.1]; exact (List.getElem?_eq_some_iff.1 ha).1) ha hb)
                clear hlt
                go_wp2
                go_ret
                exact ⟨by rw [Hres.out, Hf.out]; rfl, Hbe.out⟩
        · have hd : decide (vv = u.v) = false := decide_eq_false hne
          simp only [hd] at heq
          have Hres := Lib.hid (show sameO true n u = false by rw [sameO_eq, Hop2.out, hd]; rfl)
          clear hne hd
          refine wp_region_noPanic ?_
          refine wp_region_held_drew (S := (fun w' => Below w2.heap.size w2 w' ∧ w'.rangeAt w.heap.size 0 vv.cells ∧ w'.rangeAt q 0 u.v.cells ∧ w'.cell? ⟨p, 39, none⟩ = some (.slice an m cn) ∧ w'.cell? ⟨q, 39, none⟩ = some (.slice bn m2 dn))) (by kernel_rfl) ?_ (fun hHeld => ?_)
          · (try dsimp only); (first | assumption | exact HKS.out _ (on_drew (Below.refl _ _)) | exact HKS.out _ Hkn1.out)
          refine' wpAnyH_take (i := 0) (v := _) rfl (by kernel_rfl) (by kernel_rfl) (by kernel_rfl) (fun _ _ _ h => h) (yieldsIf_load_mid (by rfl) _ _ rfl _ _ rfl _ _ ?hSCb0 ?huCb0 ?hdCb0 ?hiCb0) (by assumption) ?restCb1
          case hSCb0 => (intro w hSw; (try dsimp only at hSw); go_split_ands; assumption)
          case huCb0 => assumption
          case hdCb0 => rfl
          case hiCb0 => first | assumption | (simp only [*]; done)
          (try simp only [List.getElem_toArray, List.getElem_cons_succ, List.getElem_cons_zero, Act.put, List.setIfInBounds_toArray, List.set_cons_zero, List.set_cons_succ])
          refine wpAnyH_take (i := 1) (v := ?_) rfl (by kernel_rfl) (by kernel_rfl) (by kernel_rfl) (fun _ _ _ h => h) (Or.inl ⟨by rfl, ?_⟩) (by assumption) ?_
          rotate_left
          · intro w hSw; (try dsimp only at hSw); go_simp; (try with_reducible rfl)
          (try simp only [List.getElem_toArray, List.getElem_cons_succ, List.getElem_cons_zero, Act.put, List.setIfInBounds_toArray, List.set_cons_zero, List.set_cons_succ])
          refine wpAnyH_take (i := 2) (v := ?_) rfl (by kernel_rfl) (by kernel_rfl) (by kernel_rfl) (fun _ _ _ h => h) (Or.inl ⟨by rfl, ?_⟩) (by assumption) ?_
          rotate_left
          · intro w hSw; (try dsimp only at hSw); go_simp; (try with_reducible rfl)
          (try simp only [List.getElem_toArray, List.getElem_cons_succ, List.getElem_cons_zero, Act.put, List.setIfInBounds_toArray, List.set_cons_zero, List.set_cons_succ])
          refine wpAnyH_take (i := 3) (v := ?_) rfl (by kernel_rfl) (by kernel_rfl) (by kernel_rfl) (fun _ _ _ h => h) (Or.inl ⟨by rfl, ?_⟩) (by assumption) ?_
          rotate_left
          · intro w hSw; (try dsimp only at hSw); go_simp; (try with_reducible rfl)
          (try simp only [List.getElem_toArray, List.getElem_cons_succ, List.getElem_cons_zero, Act.put, List.setIfInBounds_toArray, List.set_cons_zero, List.set_cons_succ])
          refine' wpAnyH_take (i := 4) (v := _) rfl (by kernel_rfl) (by kernel_rfl) (by kernel_rfl) (fun _ _ _ h => h) (yieldsIf_load_mid (by rfl) _ _ rfl _ _ rfl _ _ ?hSCb4 ?huCb4 ?hdCb4 ?hiCb4) (by assumption) ?restCb2
          case hSCb4 => (intro w hSw; (try dsimp only at hSw); go_split_ands; assumption)
          case huCb4 => assumption
          case hdCb4 => rfl
          case hiCb4 => first | assumption | (simp only [*]; done)
          (try simp only [List.getElem_toArray, List.getElem_cons_succ, List.getElem_cons_zero, Act.put, List.setIfInBounds_toArray, List.set_cons_zero, List.set_cons_succ])
          refine wpAnyH_take (i := 5) (v := ?_) rfl (by kernel_rfl) (by kernel_rfl) (by kernel_rfl) (fun _ _ _ h => h) (Or.inl ⟨by rfl, ?_⟩) (by assumption) ?_
          rotate_left
          · intro w hSw; (try dsimp only at hSw); go_simp; (try with_reducible rfl)
          (try simp only [List.getElem_toArray, List.getElem_cons_succ, List.getElem_cons_zero, Act.put, List.setIfInBounds_toArray, List.set_cons_zero, List.set_cons_succ])
          refine wpAnyH_take (i := 6) (v := ?_) rfl (by kernel_rfl) (by kernel_rfl) (by kernel_rfl) (fun _ _ _ h => h) (Or.inl ⟨by rfl, ?_⟩) (by assumption) ?_
          rotate_left
          · intro w hSw; (try dsimp only at hSw); go_simp; (try with_reducible rfl)
          (try simp only [List.getElem_toArray, List.getElem_cons_succ, List.getElem_cons_zero, Act.put, List.setIfInBounds_toArray, List.set_cons_zero, List.set_cons_succ])
          refine wpAnyH_take (i := 7) (v := undef) rfl (by kernel_rfl) (by kernel_rfl) (by kernel_rfl) (fun _ _ _ h => h) (Or.inr ⟨by rfl, rfl⟩) (by assumption) ?_
          (try simp only [List.getElem_toArray, List.getElem_cons_succ, List.getElem_cons_zero, Act.put, List.setIfInBounds_toArray, List.set_cons_zero, List.set_cons_succ])
          refine wpAnyH_take (i := 8) (v := undef) rfl (by kernel_rfl) (by kernel_rfl) (by kernel_rfl) (fun _ _ _ h => h) (Or.inr ⟨by rfl, rfl⟩) (by assumption) ?_
          (try simp only [List.getElem_toArray, List.getElem_cons_succ, List.getElem_cons_zero, Act.put, List.setIfInBounds_toArray, List.set_cons_zero, List.set_cons_succ])
          refine wpAnyH_take (i := 9) (v := undef) rfl (by kernel_rfl) (by kernel_rfl) (by kernel_rfl) (fun _ _ _ h => h) (Or.inr ⟨by rfl, rfl⟩) (by assumption) ?_
          (try simp only [List.getElem_toArray, List.getElem_cons_succ, List.getElem_cons_zero, Act.put, List.setIfInBounds_toArray, List.set_cons_zero, List.set_cons_succ])
          refine wpAnyH_take (i := 10) (v := undef) rfl (by kernel_rfl) (by kernel_rfl) (by kernel_rfl) (fun _ _ _ h => h) (Or.inr ⟨by rfl, rfl⟩) (by assumption) ?_
          (try simp only [List.getElem_toArray, List.getElem_cons_succ, List.getElem_cons_zero, Act.put, List.setIfInBounds_toArray, List.set_cons_zero, List.set_cons_succ])
          refine wpAnyH_take (i := 11) (v := undef) rfl (by kernel_rfl) (by kernel_rfl) (by kernel_rfl) (fun _ _ _ h => h) (Or.inr ⟨by rfl, rfl⟩) (by assumption) ?_
          (try simp only [List.getElem_toArray, List.getElem_cons_succ, List.getElem_cons_zero, Act.put, List.setIfInBounds_toArray, List.set_cons_zero, List.set_cons_succ])
          refine wpAnyH_take (i := 12) (v := undef) rfl (by kernel_rfl) (by kernel_rfl) (by kernel_rfl) (fun _ _ _ h => h) (Or.inr ⟨by rfl, rfl⟩) (by assumption) ?_
          (try simp only [List.getElem_toArray, List.getElem_cons_succ, List.getElem_cons_zero, Act.put, List.setIfInBounds_toArray, List.set_cons_zero, List.set_cons_succ])
          refine wpAnyH_take (i := 13) (v := undef) rfl (by kernel_rfl) (by kernel_rfl) (by kernel_rfl) (fun _ _ _ h => h) (Or.inr ⟨by rfl, rfl⟩) (by assumption) ?_
          (try simp only [List.getElem_toArray, List.getElem_cons_succ, List.getElem_cons_zero, Act.put, List.setIfInBounds_toArray, List.set_cons_zero, List.set_cons_succ])
          refine wpAnyH_take (i := 14) (v := undef) rfl (by kernel_rfl) (by kernel_rfl) (by kernel_rfl) (fun _ _ _ h => h) (Or.inr ⟨by rfl, rfl⟩) (by assumption) ?_
          (try simp only [List.getElem_toArray, List.getElem_cons_succ, List.getElem_cons_zero, Act.put, List.setIfInBounds_toArray, List.set_cons_zero, List.set_cons_succ])
          refine wpAnyH_take (i := 15) (v := undef) rfl (by kernel_rfl) (by kernel_rfl) (by kernel_rfl) (fun _ _ _ h => h) (Or.inr ⟨by rfl, rfl⟩) (by assumption) ?_
          (try simp only [List.getElem_toArray, List.getElem_cons_succ, List.getElem_cons_zero, Act.put, List.setIfInBounds_toArray, List.set_cons_zero, List.set_cons_succ])
          refine wpAnyH_take (i := 16) (v := undef) rfl (by kernel_rfl) (by kernel_rfl) (by kernel_rfl) (fun _ _ _ h => h) (Or.inr ⟨by rfl, rfl⟩) (by assumption) ?_
          (try simp only [List.getElem_toArray, List.getElem_cons_succ, List.getElem_cons_zero, Act.put, List.setIfInBounds_toArray, List.set_cons_zero, List.set_cons_succ])
          refine wpAnyH_take (i := 17) (v := ?_) rfl (by kernel_rfl) (by kernel_rfl) (by kernel_rfl) (fun _ _ _ h => h) (Or.inl ⟨by rfl, ?_⟩) (by assumption) ?_
          rotate_left
          · intro w hSw; (try dsimp only at hSw); go_simp; (try with_reducible rfl)
          (try simp only [List.getElem_toArray, List.getElem_cons_succ, List.getElem_cons_zero, Act.put, List.setIfInBounds_toArray, List.set_cons_zero, List.set_cons_succ])
          refine wpAnyH_done (by kernel_rfl) ?_ _
          refine NoPanic.normal ?_
          all_goals
            go_wp2
            go_ret
            exact ⟨by rw [Hres.out]; rfl, on_drew Hb2.out⟩
    · have e1 : (u.v.mode == 8) = false := by rw [beq_eq_false_iff_ne]; exact hm8
      have Hop := Lib.hid (show openV true n.v u.v = n.v by unfold openV; rw [if_neg (by simp [hm8])])
      clear hm8
      go_wp2_with fail
      have Hb2 := Lib.hid Hb1.out
      have Hr2 := Lib.hid Hr1.out
      -- ROW OF THE VALUE: n.v in w1
      obtain ⟨rq, c39, c40, d39, d40, _, _⟩ := Hs.out w1 Hb2.out
      obtain ⟨vv, hvv⟩ : ∃ vv, vv = n.v := ⟨_, rfl⟩
      have hop : openV true n.v u.v = vv := by rw [hvv]; exact Hop.out
      have R2 := Hr2.out
      rw [← hvv] at R2
      have rb := rangeAt_row R2
      have hvl : vv.cells.length = 35 := vv.cells_length (by rw [← hop]; exact openV_wf Hv.out)
      have hsum : vv.sum.length = 32 := by have := openV_wf (o := true) (u := u.v) Hv.out; rw [hop] at this; exact this.1
      have heq : ∀ w, (Op.equalIn 10000 24 (.agg vv.cells.toArray) (.agg u.v.cells.toArray)).run Try.prog w = .ok (decide (vv = u.v)) w := fun w => eq_value vv u.v hsum Hv2.out.1 w
      have inf1 : (Try.prog.info? 24).map (·.size) = some vv.cells.length := by rw [hvl]; kernel_rfl
      have inf2 : (Try.prog.info? 24).map (·.size) = some u.v.cells.length := by rw [u.v.cells_length Hv2.out]; kernel_rfl
      have und24 := Try.underlying24
      have HKS : Hid (∀ w', Below w1.heap.size w1 w' → Below w1.heap.size w1 w' ∧ w'.rangeAt w.heap.size 0 vv.cells ∧ w'.rangeAt q 0 u.v.cells ∧ w'.cell? ⟨p, 39, none⟩ = some (.slice an m cn) ∧ w'.cell? ⟨q, 39, none⟩ = some (.slice bn m2 dn)) := fun w' h => by
        obtain ⟨e1, e2, _, e3, _⟩ := Hs.out w' (below_on Hb2.out h)
        exact ⟨h, rangeAt_kept rb (Upd.below h fun _ => False) id, e1, e2, e3⟩
      have Hkn := Lib.hid (Below.refl w1.heap.size w1)
      have Hop2 := Lib.hid hop
      have Hvv := Lib.hid hvv
      clear hop hvv R2 hvl hsum rb rq
      by_cases hne : vv = u.v
      · have hd : decide (vv = u.v) = true := decide_eq_true hne
        simp only [hd] at heq
        have Hne := Lib.hid hne
        clear hne hd
        have Heq := Lib.hid (fun wx (hx : Below w1.heap.size w1 wx) => sliceEq_any wx an bn cn dn m m2 (n.kids.map Nd.name) (u.kids.map Nd.name) (Hsn.out.below (below_on Hb2.out hx)) (Hsn2.out.below (below_on Hb2.out hx)) (by rw [List.length_map]; exact Hm.out.1.symm) (by rw [List.length_map]; exact Hm.out.2.symm))
        obtain ⟨bn', hbn'⟩ : ∃ b, b = decide (n.kids.map Nd.name = u.kids.map Nd.name) := ⟨_, rfl⟩
        rw [← hbn'] at Heq
        have Hbn := Lib.hid hbn'
        clear hbn'
        refine wp_region_noPanic ?_
        refine wp_region_held_drew (S := (fun w' => Below w1.heap.size w1 w' ∧ w'.rangeAt w.heap.size 0 vv.cells ∧ w'.rangeAt q 0 u.v.cells ∧ w'.cell? ⟨p, 39, none⟩ = some (.slice an m cn) ∧ w'.cell? ⟨q, 39, none⟩ = some (.slice bn m2 dn))) (by kernel_rfl) ?_ (fun hHeld => ?_)
        · (try dsimp only); (first | assumption | exact HKS.out _ (on_drew (Below.refl _ _)) | exact HKS.out _ Hkn1.out)
        refine' wpAnyH_take (i := 0) (v := _) rfl (by kernel_rfl) (by kernel_rfl) (by kernel_rfl) (fun _ _ _ h => h) (yieldsIf_load_mid (by rfl) _ _ rfl _ _ rfl _ _ ?hSDa0 ?huDa0 ?hdDa0 ?hiDa0) (by assumption) ?restDa1
        case hSDa0 => (intro w hSw; (try dsimp only at hSw); go_split_ands; assumption)
        case huDa0 => assumption
        case hdDa0 => rfl
        case hiDa0 => first | assumption | (simp only [*]; done)
        (try simp only [List.getElem_toArray, List.getElem_cons_succ, List.getElem_cons_zero, Act.put, List.setIfInBounds_toArray, List.set_cons_zero, List.set_cons_succ])
        refine wpAnyH_take (i := 1) (v := ?_) rfl (by kernel_rfl) (by kernel_rfl) (by kernel_rfl) (fun _ _ _ h => h) (Or.inl ⟨by rfl, ?_⟩) (by assumption) ?_
        rotate_left
        · intro w hSw; (try dsimp only at hSw); go_simp; (try with_reducible rfl)
        (try simp only [List.getElem_toArray, List.getElem_cons_succ, List.getElem_cons_zero, Act.put, List.setIfInBounds_toArray, List.set_cons_zero, List.set_cons_succ])
        refine wpAnyH_take (i := 2) (v := ?_) rfl (by kernel_rfl) (by kernel_rfl) (by kernel_rfl) (fun _ _ _ h => h) (Or.inl ⟨by rfl, ?_⟩) (by assumption) ?_
        rotate_left
        · intro w hSw; (try dsimp only at hSw); go_simp; (try with_reducible rfl)
        (try simp only [List.getElem_toArray, List.getElem_cons_succ, List.getElem_cons_zero, Act.put, List.setIfInBounds_toArray, List.set_cons_zero, List.set_cons_succ])
        refine wpAnyH_take (i := 3) (v := ?_) rfl (by kernel_rfl) (by kernel_rfl) (by kernel_rfl) (fun _ _ _ h => h) (Or.inl ⟨by rfl, ?_⟩) (by assumption) ?_
        rotate_left
        · intro w hSw; (try dsimp only at hSw); go_simp; (try with_reducible rfl)
        (try simp only [List.getElem_toArray, List.getElem_cons_succ, List.getElem_cons_zero, Act.put, List.setIfInBounds_toArray, List.set_cons_zero, List.set_cons_succ])
        refine' wpAnyH_take (i := 4) (v := _) rfl (by kernel_rfl) (by kernel_rfl) (by kernel_rfl) (fun _ _ _ h => h) (yieldsIf_load_mid (by rfl) _ _ rfl _ _ rfl _ _ ?hSDa4 ?huDa4 ?hdDa4 ?hiDa4) (by assumption) ?restDa2
        case hSDa4 => (intro w hSw; (try dsimp only at hSw); go_split_ands; assumption)
        case huDa4 => assumption
        case hdDa4 => rfl
        case hiDa4 => first | assumption | (simp only [*]; done)
        (try simp only [List.getElem_toArray, List.getElem_cons_succ, List.getElem_cons_zero, Act.put, List.setIfInBounds_toArray, List.set_cons_zero, List.set_cons_succ])
        refine wpAnyH_take (i := 5) (v := ?_) rfl (by kernel_rfl) (by kernel_rfl) (by kernel_rfl) (fun _ _ _ h => h) (Or.inl ⟨by rfl, ?_⟩) (by assumption) ?_
        rotate_left
        · intro w hSw; (try dsimp only at hSw); go_simp; (try with_reducible rfl)
        (try simp only [List.getElem_toArray, List.getElem_cons_succ, List.getElem_cons_zero, Act.put, List.setIfInBounds_toArray, List.set_cons_zero, List.set_cons_succ])
        refine wpAnyH_take (i := 6) (v := ?_) rfl (by kernel_rfl) (by kernel_rfl) (by kernel_rfl) (fun _ _ _ h => h) (Or.inl ⟨by rfl, ?_⟩) (by assumption) ?_
        rotate_left
        · intro w hSw; (try dsimp only at hSw); go_simp; (try with_reducible rfl)
        (try simp only [List.getElem_toArray, List.getElem_cons_succ, List.getElem_cons_zero, Act.put, List.setIfInBounds_toArray, List.set_cons_zero, List.set_cons_succ])
        refine wpAnyH_take (i := 7) (v := ?_) rfl (by kernel_rfl) (by kernel_rfl) (by kernel_rfl) (fun _ _ _ h => h) (Or.inl ⟨by rfl, ?_⟩) (by assumption) ?_
        rotate_left
        · intro w hSw; (try dsimp only at hSw); go_simp; (try with_reducible rfl)
        (try simp only [List.getElem_toArray, List.getElem_cons_succ, List.getElem_cons_zero, Act.put, List.setIfInBounds_toArray, List.set_cons_zero, List.set_cons_succ])
        refine wpAnyH_take (i := 8) (v := ?_) rfl (by kernel_rfl) (by kernel_rfl) (by kernel_rfl) (fun _ _ _ h => h) (Or.inl ⟨by rfl, ?_⟩) (by assumption) ?_
        rotate_left
        · intro w hSw; (try dsimp only at hSw); go_simp; (try with_reducible rfl)
        (try simp only [List.getElem_toArray, List.getElem_cons_succ, List.getElem_cons_zero, Act.put, List.setIfInBounds_toArray, List.set_cons_zero, List.set_cons_succ])
        refine wpAnyH_take (i := 9) (v := ?_) rfl (by kernel_rfl) (by kernel_rfl) (by kernel_rfl) (fun _ _ _ h => h) (Or.inl ⟨by rfl, ?_⟩) (by assumption) ?_
        rotate_left
        · intro w hSw; (try dsimp only at hSw); go_simp; (try with_reducible rfl)
        (try simp only [List.getElem_toArray, List.getElem_cons_succ, List.getElem_cons_zero, Act.put, List.setIfInBounds_toArray, List.set_cons_zero, List.set_cons_succ])
        refine wpAnyH_take (i := 10) (v := ?_) rfl (by kernel_rfl) (by kernel_rfl) (by kernel_rfl) (fun _ _ _ h => h) (Or.inl ⟨by rfl, ?_⟩) (by assumption) ?_
        rotate_left
        · intro w hSw; (try dsimp only at hSw); go_simp; (try with_reducible rfl)
        (try simp only [List.getElem_toArray, List.getElem_cons_succ, List.getElem_cons_zero, Act.put, List.setIfInBounds_toArray, List.set_cons_zero, List.set_cons_succ])
        refine wpAnyH_take (i := 11) (v := ?_) rfl (by kernel_rfl) (by kernel_rfl) (by kernel_rfl) (fun _ _ _ h => h) (Or.inl ⟨by rfl, ?_⟩) (by assumption) ?_
        rotate_left
        · intro w hSw; (try dsimp only at hSw); go_simp; (try with_reducible rfl)
        (try simp only [List.getElem_toArray, List.getElem_cons_succ, List.getElem_cons_zero, Act.put, List.setIfInBounds_toArray, List.set_cons_zero, List.set_cons_succ])
        refine wpAnyH_take (i := 12) (v := ?_) rfl (by kernel_rfl) (by kernel_rfl) (by kernel_rfl) (fun _ _ _ h => h) (Or.inl ⟨by rfl, ?_⟩) (by assumption) ?_
        rotate_left
        · intro w hSw; (try dsimp only at hSw); go_simp; (try with_reducible rfl)
        (try simp only [List.getElem_toArray, List.getElem_cons_succ, List.getElem_cons_zero, Act.put, List.setIfInBounds_toArray, List.set_cons_zero, List.set_cons_succ])
        refine wpAnyH_take (i := 13) (v := ?_) rfl (by kernel_rfl) (by kernel_rfl) (by kernel_rfl) (fun _ _ _ h => h) (Or.inl ⟨by rfl, ?_⟩) (by assumption) ?_
        rotate_left
        · intro w hSw; (try dsimp only at hSw); go_simp; (try with_reducible rfl)
        (try simp only [List.getElem_toArray, List.getElem_cons_succ, List.getElem_cons_zero, Act.put, List.setIfInBounds_toArray, List.set_cons_zero, List.set_cons_succ])
        refine wpAnyH_take (i := 14) (v := ?_) rfl (by kernel_rfl) (by kernel_rfl) (by kernel_rfl) (fun _ _ _ h => h) (Or.inl ⟨by rfl, ?_⟩) (by assumption) ?_
        rotate_left
        · intro w hSw; (try dsimp only at hSw); go_simp; (try with_reducible rfl)
        (try simp only [List.getElem_toArray, List.getElem_cons_succ, List.getElem_cons_zero, Act.put, List.setIfInBounds_toArray, List.set_cons_zero, List.set_cons_succ])
        refine wpAnyH_ready (rs := [15]) (by kernel_rfl) (by simp) ?_
        refine AllReadyH.cons rfl (fun K hK => ?_) ?_
        rotate_left
        · exact AllReadyH.nil
        go_simp
        refine (Heq.out _ (on_drew (Below.refl _ _))).mono ?_; rintro e wn ⟨rfl, hbn⟩; have Hkn1 := Lib.hid (below_on (on_drew (Below.refl w1.heap.size w1)) hbn); clear hbn
        (try go_wp2_with fail)
        refine hK.out _ _ ?_ (fun hHeld => ?_)
        · (try dsimp only); (first | assumption | exact HKS.out _ (on_drew (Below.refl _ _)) | exact HKS.out _ Hkn1.out)
        clear hK K
        (try simp only [List.getElem_toArray, List.getElem_cons_succ, List.getElem_cons_zero, Act.put, List.setIfInBounds_toArray, List.set_cons_zero, List.set_cons_succ])
        refine wpAnyH_take (i := 16) (v := ?_) rfl (by kernel_rfl) (by kernel_rfl) (by kernel_rfl) (fun _ _ _ h => h) (Or.inl ⟨by rfl, ?_⟩) (by assumption) ?_
        rotate_left
        · intro w hSw; (try dsimp only at hSw); go_simp; (try with_reducible rfl)
        (try simp only [List.getElem_toArray, List.getElem_cons_succ, List.getElem_cons_zero, Act.put, List.setIfInBounds_toArray, List.set_cons_zero, List.set_cons_succ])
        refine wpAnyH_take (i := 17) (v := ?_) rfl (by kernel_rfl) (by kernel_rfl) (by kernel_rfl) (fun _ _ _ h => h) (Or.inl ⟨by rfl, ?_⟩) (by assumption) ?_
        rotate_left
        · intro w hSw; (try dsimp only at hSw); go_simp; (try with_reducible rfl)
        (try simp only [List.getElem_toArray, List.getElem_cons_succ, List.getElem_cons_zero, Act.put, List.setIfInBounds_toArray, List.set_cons_zero, List.set_cons_succ])
        refine wpAnyH_done (by kernel_rfl) ?_ _
        refine NoPanic.normal ?_
        have Hbw := Lib.hid (below_on Hb2.out Hkn1.out)
        clear heq inf1 inf2 und24 HKS Heq Hkn
        cases bn' with
        | false =>
          have Hres := Lib.hid (show sameO true n u = false by rw [sameO_eq, Hop2.out, decide_eq_true Hne.out, ← Hbn.out]; rfl)
          go_wp2
          go_ret
          exact ⟨by rw [Hres.out]; rfl, Hbw.out⟩
        | true =>
          have hnm : n.kids.map Nd.name = u.kids.map Nd.name := of_decide_eq_true Hbn.out.symm
          have hmm : m2 = m := by
            have h := congrArg List.length hnm
            rw [List.length_map, List.length_map] at h
            rw [Hm.out.1, Hm.out.2, h]
          subst hmm
          have Hres := Lib.hid (show sameO true n u = sameKids true n.kids u.kids by rw [sameO_eq, Hop2.out, decide_eq_true Hne.out, ← Hbn.out]; rfl)
          obtain ⟨_, _, e40, _, g40, _, _⟩ := Hs.out wn Hbw.out
          clear hnm
          (try simp only [Bool.not_true, Bool.not_false])
          go_wp2_with fail
          go_loopw [63] (fun i wr => ∃ k : Nat, k ≤ m2 ∧ i = .int .i64 k ∧ Below w.heap.size w wr ∧ (∀ (i : Nat) (a b : Nd), i < k → n.kids[i]? = some a → u.kids[i]? = some b → sameO true a b = true)) (fun i _ => m2 - (intOf i).toNat)
          case atStart => exact ⟨0, Nat.zero_le _, rfl, Hbw.out, fun i a b h => absurd h (Nat.not_lt_zero _)⟩
          case round =>
            obtain ⟨k, hk, rfl, hbe, hall⟩ := hrel
            have Hbe := Lib.hid hbe
            have Hall := Lib.hid hall
            clear hbe hall e40 g40
            by_cases hlt : k < m2
            · have hk1 : k < n.kids.length := by rw [← Hm.out.1]; exact hlt
              have hk2 : k < u.kids.length := by rw [← Hm.out.2]; exact hlt
              have hp1 : k < ps.length := by rw [HT.out.1]; exact hk1
              have hp2 : k < qs.length := by rw [HT2.out.1]; exact hk2
              obtain ⟨a, ha⟩ : ∃ a, n.kids[k]? = some a := ⟨_, List.getElem?_eq_getElem hk1⟩
              obtain ⟨b, hb⟩ : ∃ b, u.kids[k]? = some b := ⟨_, List.getElem?_eq_getElem hk2⟩
              obtain ⟨x, hx⟩ : ∃ x, ps[k]? = some x := ⟨_, List.getElem?_eq_getElem hp1⟩
              obtain ⟨y, hy⟩ : ∃ y, qs[k]? = some y := ⟨_, List.getElem?_eq_getElem hp2⟩
              obtain ⟨g1, o1, rfl, _, cc1⟩ := (Hsk.out.below Hbe.out).open_ (by simp [ptrs]; omega)
              obtain ⟨g2, o2, rfl, _, cc2⟩ := (Hsk2.out.below Hbe.out).open_ (by simp [ptrs]; omega)
              have x1 := cc1 k (.pointer (some ⟨x, 0, none⟩)) (by simp [ptrs, hx])
              have x2 := cc2 k (.pointer (some ⟨y, 0, none⟩)) (by simp [ptrs, hy])
              obtain ⟨_, _, e40, _, g40, _, _⟩ := Hs.out wr Hbe.out
              have i1 : (0 : Int) ≤ (k : Int) := by omega
              have i2 : (k : Int) < (m2 : Int) := by omega
              have Hab := Lib.hid (And.intro ha hb)
              have hcall := Ih.out F G wr.drew x y a b ((HT.out.2 k x a hx ha).2.below (on_drew Hbe.out)) ((HT2.out.2 k y b hy hb).2.below (on_drew Hbe.out))
              obtain ⟨sb, hsb⟩ : ∃ sb, sb = sameO true a b := ⟨_, rfl⟩
              rw [← hsb] at hcall
              have Hcall := Lib.hid hcall
              have Hsb := Lib.hid hsb
              clear hk1 hk2 hp1 hp2 ha hb hx hy cc1 cc2 hcall hsb
              go_wp2_with fail
              go_still_tail 15, (by kernel_rfl)
              change wpList _ _ _ _ _ wr.drew
              go_wp2_with fail
              refine Hcall.out.mono ?_
              rintro e5 w5 ⟨rfl, hb5⟩
              have Hb5 := Lib.hid ((on_drew Hbe.out).trans (hb5.mono Hbe.out.size))
              clear hb5 Hcall
              cases sb with
              | false =>
                have Hf := Lib.hid (show sameKids true n.kids u.kids = false by
                  rw [Bool.eq_false_iff]
                  intro h
                  have := (sameKids_iff true _ _).1 h k a b Hab.out.1 Hab.out.2
                  rw [← Hsb.out] at this
                  cases this)
                go_wp2
                go_ret
                exact ⟨by rw [Hres.out, Hf.out]; rfl, Hb5.out⟩
              | true =>
                go_wp2
                go_roundw
                case rel =>
                  refine ⟨k + 1, hlt, by go_num, Hb5.out, fun i a' b' hi ha' hb' => ?_⟩
                  by_cases hik : i = k
                  · subst hik
                    rw [Hab.out.1] at ha'
                    rw [Hab.out.2] at hb'
                    injection ha' with ha'
                    injection hb' with hb'
                    rw [← ha', ← hb']; exact Hsb.out.symm
                  · exact Hall.out i a' b' (by omega) ha' hb'
                case measure => simp [intOf]; omega
            · obtain rfl : k = m2 := by omega
              have Hf := Lib.hid (show sameKids true n.kids u.kids = true from (sameKids_iff true _ _).2 fun i a b ha hb => Hall.out i a b (by rw [Hm.out.1]; exact (List.getElem?_eq_some_iff.1 ha).1) ha hb)
              clear hlt
              go_wp2
              go_ret
              exact ⟨by rw [Hres.out, Hf.out]; rfl, Hbe.out⟩
      · have hd : decide (vv = u.v) = false := decide_eq_false hne
        simp only [hd] at heq
        have Hres := Lib.hid (show sameO true n u = false by rw [sameO_eq, Hop2.out, hd]; rfl)
        clear hne hd
        refine wp_region_noPanic ?_
        refine wp_region_held_drew (S := (fun w' => Below w1.heap.size w1 w' ∧ w'.rangeAt w.heap.size 0 vv.cells ∧ w'.rangeAt q 0 u.v.cells ∧ w'.cell? ⟨p, 39, none⟩ = some (.slice an m cn) ∧ w'.cell? ⟨q, 39, none⟩ = some (.slice bn m2 dn))) (by kernel_rfl) ?_ (fun hHeld => ?_)
        · (try dsimp only); (first | assumption | exact HKS.out _ (on_drew (Below.refl _ _)) | exact HKS.out _ Hkn1.out)
        refine' wpAnyH_take (i := 0) (v := _) rfl (by kernel_rfl) (by kernel_rfl) (by kernel_rfl) (fun _ _ _ h => h) (yieldsIf_load_mid (by rfl) _ _ rfl _ _ rfl _ _ ?hSDb0 ?huDb0 ?hdDb0 ?hiDb0) (by assumption) ?restDb1
        case hSDb0 => (intro w hSw; (try dsimp only at hSw); go_split_ands; assumption)
        case huDb0 => assumption
        case hdDb0 => rfl
        case hiDb0 => first | assumption | (simp only [*]; done)
        (try simp only [List.getElem_toArray, List.getElem_cons_succ, List.getElem_cons_zero, Act.put, List.setIfInBounds_toArray, List.set_cons_zero, List.set_cons_succ])
        refine wpAnyH_take (i := 1) (v := ?_) rfl (by kernel_rfl) (by kernel_rfl) (by kernel_rfl) (fun _ _ _ h => h) (Or.inl ⟨by rfl, ?_⟩) (by assumption) ?_
        rotate_left
        · intro w hSw; (try dsimp only at hSw); go_simp; (try with_reducible rfl)
        (try simp only [List.getElem_toArray, List.getElem_cons_succ, List.getElem_cons_zero, Act.put, List.setIfInBounds_toArray, List.set_cons_zero, List.set_cons_succ])
        refine wpAnyH_take (i := 2) (v := ?_) rfl (by kernel_rfl) (by kernel_rfl) (by kernel_rfl) (fun _ _ _ h => h) (Or.inl ⟨by rfl, ?_⟩) (by assumption) ?_
        rotate_left
        · intro w hSw; (try dsimp only at hSw); go_simp; (try with_reducible rfl)
        (try simp only [List.getElem_toArray, List.getElem_cons_succ, List.getElem_cons_zero, Act.put, List.setIfInBounds_toArray, List.set_cons_zero, List.set_cons_succ])
        refine wpAnyH_take (i := 3) (v := ?_) rfl (by kernel_rfl) (by kernel_rfl) (by kernel_rfl) (fun _ _ _ h => h) (Or.inl ⟨by rfl, ?_⟩) (by assumption) ?_
        rotate_left
        · intro w hSw; (try dsimp only at hSw); go_simp; (try with_reducible rfl)
        (try simp only [List.getElem_toArray, List.getElem_cons_succ, List.getElem_cons_zero, Act.put, List.setIfInBounds_toArray, List.set_cons_zero, List.set_cons_succ])
        refine' wpAnyH_take (i := 4) (v := _) rfl (by kernel_rfl) (by kernel_rfl) (by kernel_rfl) (fun _ _ _ h => h) (yieldsIf_load_mid (by rfl) _ _ rfl _ _ rfl _ _ ?hSDb4 ?huDb4 ?hdDb4 ?hiDb4) (by assumption) ?restDb2
        case hSDb4 => (intro w hSw; (try dsimp only at hSw); go_split_ands; assumption)
        case huDb4 => assumption
        case hdDb4 => rfl
        case hiDb4 => first | assumption | (simp only [*]; done)
        (try simp only [List.getElem_toArray, List.getElem_cons_succ, List.getElem_cons_zero, Act.put, List.setIfInBounds_toArray, List.set_cons_zero, List.set_cons_succ])
        refine wpAnyH_take (i := 5) (v := ?_) rfl (by kernel_rfl) (by kernel_rfl) (by kernel_rfl) (fun _ _ _ h => h) (Or.inl ⟨by rfl, ?_⟩) (by assumption) ?_
        rotate_left
        · intro w hSw; (try dsimp only at hSw); go_simp; (try with_reducible rfl)
        (try simp only [List.getElem_toArray, List.getElem_cons_succ, List.getElem_cons_zero, Act.put, List.setIfInBounds_toArray, List.set_cons_zero, List.set_cons_succ])
        refine wpAnyH_take (i := 6) (v := ?_) rfl (by kernel_rfl) (by kernel_rfl) (by kernel_rfl) (fun _ _ _ h => h) (Or.inl ⟨by rfl, ?_⟩) (by assumption) ?_
        rotate_left
        · intro w hSw; (try dsimp only at hSw); go_simp; (try with_reducible rfl)
        (try simp only [List.getElem_toArray, List.getElem_cons_succ, List.getElem_cons_zero, Act.put, List.setIfInBounds_toArray, List.set_cons_zero, List.set_cons_succ])
        refine wpAnyH_take (i := 7) (v := undef) rfl (by kernel_rfl) (by kernel_rfl) (by kernel_rfl) (fun _ _ _ h => h) (Or.inr ⟨by rfl, rfl⟩) (by assumption) ?_
        (try simp only [List.getElem_toArray, List.getElem_cons_succ, List.getElem_cons_zero, Act.put, List.setIfInBounds_toArray, List.set_cons_zero, List.set_cons_succ])
        refine wpAnyH_take (i := 8) (v := undef) rfl (by kernel_rfl) (by kernel_rfl) (by kernel_rfl) (fun _ _ _ h => h) (Or.inr ⟨by rfl, rfl⟩) (by assumption) ?_
        (try simp only [List.getElem_toArray, List.getElem_cons_succ, List.getElem_cons_zero, Act.put, List.setIfInBounds_toArray, List.set_cons_zero, List.set_cons_succ])
        refine wpAnyH_take (i := 9) (v := undef) rfl (by kernel_rfl) (by kernel_rfl) (by kernel_rfl) (fun _ _ _ h => h) (Or.inr ⟨by rfl, rfl⟩) (by assumption) ?_
        (try simp only [List.getElem_toArray, List.getElem_cons_succ, List.getElem_cons_zero, Act.put, List.setIfInBounds_toArray, List.set_cons_zero, List.set_cons_succ])
        refine wpAnyH_take (i := 10) (v := undef) rfl (by kernel_rfl) (by kernel_rfl) (by kernel_rfl) (fun _ _ _ h => h) (Or.inr ⟨by rfl, rfl⟩) (by assumption) ?_
        (try simp only [List.getElem_toArray, List.getElem_cons_succ, List.getElem_cons_zero, Act.put, List.setIfInBounds_toArray, List.set_cons_zero, List.set_cons_succ])
        refine wpAnyH_take (i := 11) (v := undef) rfl (by kernel_rfl) (by kernel_rfl) (by kernel_rfl) (fun _ _ _ h => h) (Or.inr ⟨by rfl, rfl⟩) (by assumption) ?_
        (try simp only [List.getElem_toArray, List.getElem_cons_succ, List.getElem_cons_zero, Act.put, List.setIfInBounds_toArray, List.set_cons_zero, List.set_cons_succ])
        refine wpAnyH_take (i := 12) (v := undef) rfl (by kernel_rfl) (by kernel_rfl) (by kernel_rfl) (fun _ _ _ h => h) (Or.inr ⟨by rfl, rfl⟩) (by assumption) ?_
        (try simp only [List.getElem_toArray, List.getElem_cons_succ, List.getElem_cons_zero, Act.put, List.setIfInBounds_toArray, List.set_cons_zero, List.set_cons_succ])
        refine wpAnyH_take (i := 13) (v := undef) rfl (by kernel_rfl) (by kernel_rfl) (by kernel_rfl) (fun _ _ _ h => h) (Or.inr ⟨by rfl, rfl⟩) (by assumption) ?_
        (try simp only [List.getElem_toArray, List.getElem_cons_succ, List.getElem_cons_zero, Act.put, List.setIfInBounds_toArray, List.set_cons_zero, List.set_cons_succ])
        refine wpAnyH_take (i := 14) (v := undef) rfl (by kernel_rfl) (by kernel_rfl) (by kernel_rfl) (fun _ _ _ h => h) (Or.inr ⟨by rfl, rfl⟩) (by assumption) ?_
        (try simp only [List.getElem_toArray, List.getElem_cons_succ, List.getElem_cons_zero, Act.put, List.setIfInBounds_toArray, List.set_cons_zero, List.set_cons_succ])
        refine wpAnyH_take (i := 15) (v := undef) rfl (by kernel_rfl) (by kernel_rfl) (by kernel_rfl) (fun _ _ _ h => h) (Or.inr ⟨by rfl, rfl⟩) (by assumption) ?_
        (try simp only [List.getElem_toArray, List.getElem_cons_succ, List.getElem_cons_zero, Act.put, List.setIfInBounds_toArray, List.set_cons_zero, List.set_cons_succ])
        refine wpAnyH_take (i := 16) (v := undef) rfl (by kernel_rfl) (by kernel_rfl) (by kernel_rfl) (fun _ _ _ h => h) (Or.inr ⟨by rfl, rfl⟩) (by assumption) ?_
        (try simp only [List.getElem_toArray, List.getElem_cons_succ, List.getElem_cons_zero, Act.put, List.setIfInBounds_toArray, List.set_cons_zero, List.set_cons_succ])
        refine wpAnyH_take (i := 17) (v := ?_) rfl (by kernel_rfl) (by kernel_rfl) (by kernel_rfl) (fun _ _ _ h => h) (Or.inl ⟨by rfl, ?_⟩) (by assumption) ?_
        rotate_left
        · intro w hSw; (try dsimp only at hSw); go_simp; (try with_reducible rfl)
        (try simp only [List.getElem_toArray, List.getElem_cons_succ, List.getElem_cons_zero, Act.put, List.setIfInBounds_toArray, List.set_cons_zero, List.set_cons_succ])
        refine wpAnyH_done (by kernel_rfl) ?_ _
        refine NoPanic.normal ?_
        all_goals
          go_wp2
          go_ret
          exact ⟨by rw [Hres.out]; rfl, on_drew Hb2.out⟩
theorem same_ok (o : Bool) : ∀ d : Nat, SameOk o d
  | 0 => fun F G w p q n u h => h.elim
  | d + 1 => same_step o d (same_ok o d)
end Go.Proofs.Ythnbinlllmkabaa
