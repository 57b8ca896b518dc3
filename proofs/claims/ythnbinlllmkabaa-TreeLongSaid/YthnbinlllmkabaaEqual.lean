/- The reference's Equal: the same values, marks and names (but their own) throughout. -/
import Derived.Test.YthnbinlllmkabaaCopy
import Derived.Test.YthnbinlllmkabaaEq
import Derived.Test.YthnbinlllmkabaaOwn
import Derived.Deep.RegionHeld3
import Derived.BigQuiet
namespace Go.Proofs.Ythnbinlllmkabaa
open Go.RowKit
set_option linter.unusedVariables false
set_option linter.unusedSimpArgs false

mutual
def Nd.alike : Nd → Nd → Bool
  | .mk _ v m ks, .mk _ u l js => decide (v = u) && (decide (m = l) && (decide (ks.length = js.length) && alikeKids ks js))
def alikeKids : List Nd → List Nd → Bool
  | k :: ks, j :: js => decide (k.name = j.name) && (k.alike j && alikeKids ks js)
  | _, _ => true
end
theorem alike_eq (n u : Nd) : n.alike u = (decide (n.v = u.v) && (decide (n.m = u.m) && (decide (n.kids.length = u.kids.length) && alikeKids n.kids u.kids))) := by
  cases n; cases u; rw [Nd.alike]; rfl
mutual
theorem alike_self : ∀ (n : Nd) (s : ByteArray) , n.alike (n.named s) = true
  | .mk _ v m ks, s => by simp [Nd.named, Nd.alike, Nd.v, Nd.m, Nd.kids, alikeKids_self ks]
theorem alikeKids_self : ∀ ks : List Nd, alikeKids ks ks = true
  | [] => rfl
  | .mk s v m js :: ks => by
    have h := alike_self (.mk s v m js) s
    have h2 := alikeKids_self ks
    simp only [Nd.named, Nd.v, Nd.m, Nd.kids] at h
    simp [alikeKids, h, h2]
end
theorem alikeKids_step {ks js : List Nd} {k : Nat} (h1 : k < ks.length) (h2 : k < js.length) : alikeKids (ks.drop k) (js.drop k) = (decide (ks[k].name = js[k].name) && (ks[k].alike js[k] && alikeKids (ks.drop (k + 1)) (js.drop (k + 1)))) := by
  rw [List.drop_eq_getElem_cons h1, List.drop_eq_getElem_cons h2, alikeKids]
theorem names_ne {a b : ByteArray} (h : a ≠ b) : (a.toList == b.toList) = false := by
  rw [beq_eq_false_iff_ne]
  intro e
  rw [ByteArray.toList_eq, ByteArray.toList_eq] at e
  exact h (ByteArray.ext (Array.toList_inj.1 e))
/-- Two nodes in two blocks of the call's own. -/
def Two (w : World) (b1 b2 : Nat) (r1 r2 : List Value) (w' : World) : Prop := w'.heap[b1]? = some (.cells r1.toArray 30 (0, 0)) ∧ w'.heap[b2]? = some (.cells r2.toArray 30 (0, 0)) ∧ Below w.heap.size w w'
theorem Two.made (w : World) (r1 r2 : List Value) : Two w w.heap.size (w.heap.size + 1) r1 r2 ((w.alloc (.cells r1.toArray 30)).alloc (.cells r2.toArray 30)) := by
  refine ⟨?_, ?_, on_alloc (on_alloc (Below.refl _ _) _) _⟩
  · rw [Below.heap_alloc _ _ _ (by simp)]; exact heap_alloc_new w _
  · have := heap_alloc_new (w.alloc (.cells r1.toArray 30)) (.cells r2.toArray 30)
    rw [World.size_alloc] at this
    exact this
theorem Two.next {w w1 w2 : World} {b1 b2 : Nat} {r1 r2 : List Value} (h : Two w b1 b2 r1 r2 w1) (hb : Below w1.heap.size w1 w2) : Two w b1 b2 r1 r2 w2 :=
  ⟨(hb.block _ (lt_heap h.1)).trans h.1, (hb.block _ (lt_heap h.2.1)).trans h.2.1, below_on h.2.2 hb⟩
set_option maxHeartbeats 4000000 in
set_option maxRecDepth 100000 in
theorem equal_step (d : Nat) (ih : ∀ e, d = e + 1 → ∀ (F G : Nat → Prop) (w : World) (n u : Nd) (a : Option Addr) (c : Nat) (a' : Option Addr) (c' : Nat), NodeIn w F e n a → NodeIn w G e u a' →
      Calls Try.prog 43 #[.agg (n.row a c).toArray, .agg (u.row a' c').toArray] w fun e' w' => e' = .returned (.bool (n.alike u)) ∧ Below w.heap.size w w')
    (F G : Nat → Prop) (w : World) (n u : Nd) (a : Option Addr) (c : Nat) (a' : Option Addr) (c' : Nat) (hn : NodeIn w F d n a) (hu : NodeIn w G d u a') :
    Calls Try.prog 43 #[.agg (n.row a c).toArray, .agg (u.row a' c').toArray] w fun e' w' => e' = .returned (.bool (n.alike u)) ∧ Below w.heap.size w w' := by
  have HT := Lib.hid (Two.made w (n.row a c) (u.row a' c'))
  obtain ⟨zz, v1, m1, f40⟩ := nrow_at (o := 0) hn.vwf (rangeAt_row HT.out.1)
  obtain ⟨zz2, v2, m2, g40⟩ := nrow_at (o := 0) hu.vwf (rangeAt_row HT.out.2.1)
  simp only [Nat.zero_add] at v1 m1 f40 v2 m2 g40
  have V1 := Lib.hid v1
  have V2 := Lib.hid v2
  have M1 := Lib.hid m1
  have M2 := Lib.hid m2
  have Ih := Lib.hid ih
  have hkz := hn.ksz
  have hkz2 := hu.ksz
  obtain ⟨m, hm⟩ : ∃ m, m = n.kids.length := ⟨_, rfl⟩
  obtain ⟨l, hl⟩ : ∃ l, l = u.kids.length := ⟨_, rfl⟩
  rw [← hm] at hkz f40
  rw [← hl] at hkz2 g40
  have Hn := Lib.hid hn
  have Hu := Lib.hid hu
  have Hm := Lib.hid hm
  have Hl := Lib.hid hl
  have l1 := Lib.hid (n.v.cells_length hn.vwf)
  have l2 := Lib.hid (u.v.cells_length hu.vwf)
  have hz := fun w => eq_value n.v u.v hn.vwf.1 hu.vwf.1 w
  have hy := fun w => eq_marks n.m u.m w
  have Ha := Lib.hid (alike_eq n u)
  clear hn hu ih v1 v2 m1 m2 hm hl zz zz2
  by_cases c1 : n.v = u.v
  rotate_left
  · have hd : decide (n.v = u.v) = false := decide_eq_false c1
    rw [hd] at hz
    have Hr := Lib.hid (show n.alike u = false by rw [Ha.out, hd]; rfl)
    clear Ha hd c1 hy
    go_enter Try.func43, Try.ntmps43
    go_wp2_with (first | (refine wpList_load_midg (by rfl) 24 (.tmp 6) rfl w.heap.size 1 rfl n.v.cells _ V1.out Try.underlying24 rfl (by rw [l1.out]; kernel_rfl) ?_) | (refine wpList_load_midg (by rfl) 24 (.tmp 8) rfl (w.heap.size + 1) 1 rfl u.v.cells _ V2.out Try.underlying24 rfl (by rw [l2.out]; kernel_rfl) ?_) | (refine wpList_load_midg (by rfl) 27 (.tmp 12) rfl w.heap.size 36 rfl (mcells n.m) _ M1.out Try.underlying27 rfl (by rw [show (mcells n.m).length = 4 from rfl]; kernel_rfl) ?_) | (refine wpList_load_midg (by rfl) 27 (.tmp 14) rfl (w.heap.size + 1) 36 rfl (mcells u.m) _ M2.out Try.underlying27 rfl (by rw [show (mcells u.m).length = 4 from rfl]; kernel_rfl) ?_))
    go_ret
    exact ⟨ret_b Hr.out.symm, HT.out.2.2⟩
  have hd1 : decide (n.v = u.v) = true := decide_eq_true c1
  rw [hd1] at hz Ha
  clear hd1 c1
  by_cases c2 : n.m = u.m
  rotate_left
  · have hd : decide (n.m = u.m) = false := decide_eq_false c2
    rw [hd] at hy
    have Hr := Lib.hid (show n.alike u = false by rw [Ha.out, hd]; rfl)
    clear Ha hd c2
    go_enter Try.func43, Try.ntmps43
    go_wp2_with (first | (refine wpList_load_midg (by rfl) 24 (.tmp 6) rfl w.heap.size 1 rfl n.v.cells _ V1.out Try.underlying24 rfl (by rw [l1.out]; kernel_rfl) ?_) | (refine wpList_load_midg (by rfl) 24 (.tmp 8) rfl (w.heap.size + 1) 1 rfl u.v.cells _ V2.out Try.underlying24 rfl (by rw [l2.out]; kernel_rfl) ?_) | (refine wpList_load_midg (by rfl) 27 (.tmp 12) rfl w.heap.size 36 rfl (mcells n.m) _ M1.out Try.underlying27 rfl (by rw [show (mcells n.m).length = 4 from rfl]; kernel_rfl) ?_) | (refine wpList_load_midg (by rfl) 27 (.tmp 14) rfl (w.heap.size + 1) 36 rfl (mcells u.m) _ M2.out Try.underlying27 rfl (by rw [show (mcells u.m).length = 4 from rfl]; kernel_rfl) ?_))
    go_ret
    exact ⟨ret_b Hr.out.symm, HT.out.2.2⟩
  have hd2 : decide (n.m = u.m) = true := decide_eq_true c2
  rw [hd2] at hy Ha
  clear hd2 c2
  by_cases c3 : m = l
  rotate_left
  · have hd : decide (n.kids.length = u.kids.length) = false := decide_eq_false (by rw [← Hm.out, ← Hl.out]; exact c3)
    have Hr := Lib.hid (show n.alike u = false by rw [Ha.out, hd]; rfl)
    have c4 : ((m : Int) != (l : Int)) = true := by rw [bne_iff_ne]; omega
    clear Ha hd
    go_enter Try.func43, Try.ntmps43
    go_wp2_with (first | (refine wpList_load_midg (by rfl) 24 (.tmp 6) rfl w.heap.size 1 rfl n.v.cells _ V1.out Try.underlying24 rfl (by rw [l1.out]; kernel_rfl) ?_) | (refine wpList_load_midg (by rfl) 24 (.tmp 8) rfl (w.heap.size + 1) 1 rfl u.v.cells _ V2.out Try.underlying24 rfl (by rw [l2.out]; kernel_rfl) ?_) | (refine wpList_load_midg (by rfl) 27 (.tmp 12) rfl w.heap.size 36 rfl (mcells n.m) _ M1.out Try.underlying27 rfl (by rw [show (mcells n.m).length = 4 from rfl]; kernel_rfl) ?_) | (refine wpList_load_midg (by rfl) 27 (.tmp 14) rfl (w.heap.size + 1) 36 rfl (mcells u.m) _ M2.out Try.underlying27 rfl (by rw [show (mcells u.m).length = 4 from rfl]; kernel_rfl) ?_))
    go_ret
    exact ⟨ret_b Hr.out.symm, HT.out.2.2⟩
  subst c3
  rw [← Hm.out, ← Hl.out, decide_eq_true (rfl : m = m)] at Ha
  go_enter Try.func43, Try.ntmps43
  go_wp2_with (first | (refine wpList_load_midg (by rfl) 24 (.tmp 6) rfl w.heap.size 1 rfl n.v.cells _ V1.out Try.underlying24 rfl (by rw [l1.out]; kernel_rfl) ?_) | (refine wpList_load_midg (by rfl) 24 (.tmp 8) rfl (w.heap.size + 1) 1 rfl u.v.cells _ V2.out Try.underlying24 rfl (by rw [l2.out]; kernel_rfl) ?_) | (refine wpList_load_midg (by rfl) 27 (.tmp 12) rfl w.heap.size 36 rfl (mcells n.m) _ M1.out Try.underlying27 rfl (by rw [show (mcells n.m).length = 4 from rfl]; kernel_rfl) ?_) | (refine wpList_load_midg (by rfl) 27 (.tmp 14) rfl (w.heap.size + 1) 36 rfl (mcells u.m) _ M2.out Try.underlying27 rfl (by rw [show (mcells u.m).length = 4 from rfl]; kernel_rfl) ?_))
  have c5 := HT.out
  obtain ⟨w2, hw2⟩ : ∃ w2, w2 = (w.alloc (.cells (n.row a c).toArray 30)).alloc (.cells (u.row a' c').toArray 30) := ⟨_, rfl⟩
  obtain ⟨B1, hB1⟩ : ∃ B1, B1 = w.heap.size := ⟨_, rfl⟩
  obtain ⟨B2, hB2⟩ : ∃ B2, B2 = w.heap.size + 1 := ⟨_, rfl⟩
  rw [← hw2, ← hB2, ← hB1] at c5
  rw [← hw2, ← hB2, ← hB1]
  have HT2 := Lib.hid c5
  clear c5 HT V1 V2 M1 M2 l1 l2 hz hy hw2 hB1 hB2 f40 g40
  go_loopw [5] (fun i wr => ∃ k : Nat, k ≤ m ∧ i = .int .i64 k ∧ n.alike u = alikeKids (n.kids.drop k) (u.kids.drop k) ∧ Two w B1 B2 (n.row a c) (u.row a' c') wr) (fun i _ => m - (intOf i).toNat)
  case atStart => exact ⟨0, Nat.zero_le _, rfl, by rw [Ha.out]; simp, HT2.out⟩
  case round =>
    obtain ⟨k, hk, rfl, hal, htw⟩ := hrel
    have Hal := Lib.hid hal
    have Htw := Lib.hid htw
    obtain ⟨zz, v1, m1, f40⟩ := nrow_at (o := 0) Hn.out.vwf (rangeAt_row htw.1)
    obtain ⟨zz2, v2, m2, g40⟩ := nrow_at (o := 0) Hu.out.vwf (rangeAt_row htw.2.1)
    simp only [Nat.zero_add] at f40 g40
    rw [← Hm.out] at f40
    rw [← Hl.out] at g40
    clear hal htw zz zz2 v1 v2 m1 m2 HT2 Ha
    by_cases hlt : k < m
    · have hd : ∃ e, d = e + 1 := by
        cases d with
        | zero => exfalso; have h0 : n.kids = [] := Hn.out.kids; have := Hm.out; rw [h0] at this; simp at this; omega
        | succ e => exact ⟨e, rfl⟩
      obtain ⟨d', hd⟩ := hd
      have ihe := Ih.out d' hd
      have hkn := Hn.out.kids
      have hkn2 := Hu.out.kids
      rw [hd] at hkn hkn2
      have hk1 : k < n.kids.length := by rw [← Hm.out]; exact hlt
      have hk2 : k < u.kids.length := by rw [← Hl.out]; exact hlt
      obtain ⟨g, o, ax, cx, rfl, hF, hr, hni⟩ := (hkn.below (Htw.out.2.2)).at hk1
      obtain ⟨g', o', ay, cy, rfl, hF2, hr2, hni2⟩ := (hkn2.below (Htw.out.2.2)).at hk2
      have hst := alikeKids_step hk1 hk2
      obtain ⟨x, hx⟩ : ∃ x, x = n.kids[k] := ⟨_, rfl⟩
      obtain ⟨y, hy⟩ : ∃ y, y = u.kids[k] := ⟨_, rfl⟩
      rw [← hx] at hr hni hst
      rw [← hy] at hr2 hni2 hst
      have Hst := Lib.hid (Hal.out.trans hst)
      have Hr := Lib.hid hr
      have Hr2 := Lib.hid hr2
      obtain ⟨n1, zv, zm, zk⟩ := nrow_at hni.vwf hr
      obtain ⟨n2, zv2, zm2, zk2⟩ := nrow_at hni2.vwf hr2
      have Hnx := Lib.hid hni
      have Hny := Lib.hid hni2
      have Ihe := Lib.hid ihe
      have i1 : (0 : Int) ≤ (k : Int) := by omega
      have i2 : (k : Int) < (m : Int) := by omega
      clear zv zm zk zv2 zm2 zk2 hst hx hy hr hr2 hni hni2 hkn hkn2 ihe hd hk1 hk2 Ih
      by_cases hnm : x.name = y.name
      · have inf41 : (Try.prog.info? 30).map (·.size) = some (x.row ax cx).length := by rw [row_len Hnx.out.vwf]; kernel_rfl
        have inf41' : (Try.prog.info? 30).map (·.size) = some (y.row ay cy).length := by rw [row_len Hny.out.vwf]; kernel_rfl
        have und41 := Try.underlying30
        rw [← hnm] at n2
        have hkeep : ∀ w', Below wr.heap.size wr w' → (Below wr.heap.size wr w' ∧ w'.cell? ⟨B1, 40, none⟩ = some (.slice (some ⟨g, o, none⟩) m c) ∧ w'.cell? ⟨B2, 40, none⟩ = some (.slice (some ⟨g', o', none⟩) m c') ∧ w'.cell? ⟨g, o + k * 41, none⟩ = some (.string x.name) ∧ w'.cell? ⟨g', o' + k * 41, none⟩ = some (.string x.name)) ∧ w'.rangeAt g (o + k * 41) (x.row ax cx) ∧ w'.rangeAt g' (o' + k * 41) (y.row ay cy) := fun w' hb => by
          have hup : Upd (fun _ => False) wr w' := Upd.below hb _
          exact ⟨⟨hb, hup.cell f40 id, hup.cell g40 id, hup.cell n1 id, hup.cell n2 id⟩, rangeAt_kept Hr.out hup id, rangeAt_kept Hr2.out hup id⟩
        have HK := Lib.hid hkeep
        have Hnm := Lib.hid hnm
        clear hkeep hnm
        go_wp2_with fail
        refine wp_region_noPanic ?_
        refine wp_region_held_drew (S := (fun w' => (Below wr.heap.size wr w' ∧ w'.cell? ⟨B1, 40, none⟩ = some (.slice (some ⟨g, o, none⟩) m c) ∧ w'.cell? ⟨B2, 40, none⟩ = some (.slice (some ⟨g', o', none⟩) m c') ∧ w'.cell? ⟨g, o + k * 41, none⟩ = some (.string x.name) ∧ w'.cell? ⟨g', o' + k * 41, none⟩ = some (.string x.name)) ∧ w'.rangeAt g (o + k * 41) (x.row ax cx) ∧ w'.rangeAt g' (o' + k * 41) (y.row ay cy))) (by kernel_rfl) ?_ (fun hHeld => ?_)
        · (try dsimp only); (first | assumption | exact HK.out _ Hkn.out | exact HK.out _ (on_drew Hkn.out) | exact HK.out _ (on_drew (Below.refl _ _)))
        refine wpAnyH_take (i := 0) (v := ?_) rfl (by kernel_rfl) (by kernel_rfl) (by kernel_rfl) (fun _ _ _ h => h) (Or.inl ⟨by rfl, ?_⟩) (by assumption) ?_
        rotate_left
        · intro w hSw; (try dsimp only at hSw); go_simp; (try with_reducible rfl)
        (try simp only [List.getElem_toArray, List.getElem_cons_succ, List.getElem_cons_zero, Act.put, List.setIfInBounds_toArray, List.set_cons_zero, List.set_cons_succ])
        refine wpAnyH_take (i := 1) (v := ?_) rfl (by kernel_rfl) (by kernel_rfl) (by kernel_rfl) (fun _ _ _ h => h) (Or.inl ⟨by rfl, ?_⟩) (by assumption) ?_
        rotate_left
        · intro w hSw; (try dsimp only at hSw); go_simp; (try with_reducible rfl)
        (try simp only [List.getElem_toArray, List.getElem_cons_succ, List.getElem_cons_zero, Act.put, List.setIfInBounds_toArray, List.set_cons_zero, List.set_cons_succ])
        refine wpAnyH_take (i := 2) (v := ?_) rfl (by kernel_rfl) (by kernel_rfl) (by kernel_rfl) (fun _ _ _ h => h) (Or.inl ⟨by rfl, ?_⟩) (by assumption) ?_
        rotate_left
        · intro w hSw; (try dsimp only at hSw); go_simp; (try with_reducible rfl)
        (try simp only [List.getElem_toArray, List.getElem_cons_succ, List.getElem_cons_zero, Act.put, List.setIfInBounds_toArray, List.set_cons_zero, List.set_cons_succ])
        refine wpAnyH_take (i := 3) (v := ?_) rfl (by kernel_rfl) (by kernel_rfl) (by kernel_rfl) (fun _ _ _ h => h) (Or.inl ⟨by rfl, ?_⟩) (by assumption) ?_
        rotate_left
        · intro w hSw; (try dsimp only at hSw); go_simp; (try with_reducible rfl)
        (try simp only [List.getElem_toArray, List.getElem_cons_succ, List.getElem_cons_zero, Act.put, List.setIfInBounds_toArray, List.set_cons_zero, List.set_cons_succ])
        refine wpAnyH_take (i := 4) (v := ?_) rfl (by kernel_rfl) (by kernel_rfl) (by kernel_rfl) (fun _ _ _ h => h) (Or.inl ⟨by rfl, ?_⟩) (by assumption) ?_
        rotate_left
        · intro w hSw; (try dsimp only at hSw); go_simp; (try with_reducible rfl)
        (try simp only [List.getElem_toArray, List.getElem_cons_succ, List.getElem_cons_zero, Act.put, List.setIfInBounds_toArray, List.set_cons_zero, List.set_cons_succ])
        refine wpAnyH_take (i := 5) (v := ?_) rfl (by kernel_rfl) (by kernel_rfl) (by kernel_rfl) (fun _ _ _ h => h) (Or.inl ⟨by rfl, ?_⟩) (by assumption) ?_
        rotate_left
        · intro w hSw; (try dsimp only at hSw); go_simp; (try with_reducible rfl)
        (try simp only [List.getElem_toArray, List.getElem_cons_succ, List.getElem_cons_zero, Act.put, List.setIfInBounds_toArray, List.set_cons_zero, List.set_cons_succ])
        refine wpAnyH_take (i := 6) (v := ?_) rfl (by kernel_rfl) (by kernel_rfl) (by kernel_rfl) (fun _ _ _ h => h) (Or.inl ⟨by rfl, ?_⟩) (by assumption) ?_
        rotate_left
        · intro w hSw; (try dsimp only at hSw); go_simp; (try with_reducible rfl)
        (try simp only [List.getElem_toArray, List.getElem_cons_succ, List.getElem_cons_zero, Act.put, List.setIfInBounds_toArray, List.set_cons_zero, List.set_cons_succ])
        refine wpAnyH_take (i := 7) (v := ?_) rfl (by kernel_rfl) (by kernel_rfl) (by kernel_rfl) (fun _ _ _ h => h) (Or.inl ⟨by rfl, ?_⟩) (by assumption) ?_
        rotate_left
        · intro w hSw; (try dsimp only at hSw); go_simp; (try with_reducible rfl)
        (try simp only [List.getElem_toArray, List.getElem_cons_succ, List.getElem_cons_zero, Act.put, List.setIfInBounds_toArray, List.set_cons_zero, List.set_cons_succ])
        refine wpAnyH_take (i := 8) (v := ?_) rfl (by kernel_rfl) (by kernel_rfl) (by kernel_rfl) (fun _ _ _ h => h) (Or.inl ⟨by rfl, ?_⟩) (by assumption) ?_
        rotate_left
        · intro w hSw; (try dsimp only at hSw); go_simp; (try with_reducible rfl)
        (try simp only [List.getElem_toArray, List.getElem_cons_succ, List.getElem_cons_zero, Act.put, List.setIfInBounds_toArray, List.set_cons_zero, List.set_cons_succ])
        refine wpAnyH_take (i := 9) (v := ?_) rfl (by kernel_rfl) (by kernel_rfl) (by kernel_rfl) (fun _ _ _ h => h) (Or.inl ⟨by rfl, ?_⟩) (by assumption) ?_
        rotate_left
        · intro w hSw; (try dsimp only at hSw); go_simp; (try with_reducible rfl)
        (try simp only [List.getElem_toArray, List.getElem_cons_succ, List.getElem_cons_zero, Act.put, List.setIfInBounds_toArray, List.set_cons_zero, List.set_cons_succ])
        refine wpAnyH_take (i := 10) (v := ?_) rfl (by kernel_rfl) (by kernel_rfl) (by kernel_rfl) (fun _ _ _ h => h) (Or.inl ⟨by rfl, ?_⟩) (by assumption) ?_
        rotate_left
        · intro w hSw; (try dsimp only at hSw); go_simp; (try with_reducible rfl)
        (try simp only [List.getElem_toArray, List.getElem_cons_succ, List.getElem_cons_zero, Act.put, List.setIfInBounds_toArray, List.set_cons_zero, List.set_cons_succ])
        refine wpAnyH_take (i := 11) (v := ?_) rfl (by kernel_rfl) (by kernel_rfl) (by kernel_rfl) (fun _ _ _ h => h) (Or.inl ⟨by rfl, ?_⟩) (by assumption) ?_
        rotate_left
        · intro w hSw; (try dsimp only at hSw); go_simp; (try with_reducible rfl)
        (try simp only [List.getElem_toArray, List.getElem_cons_succ, List.getElem_cons_zero, Act.put, List.setIfInBounds_toArray, List.set_cons_zero, List.set_cons_succ])
        refine wpAnyH_take (i := 12) (v := ?_) rfl (by kernel_rfl) (by kernel_rfl) (by kernel_rfl) (fun _ _ _ h => h) (Or.inl ⟨by rfl, ?_⟩) (by assumption) ?_
        rotate_left
        · intro w hSw; (try dsimp only at hSw); go_simp; (try with_reducible rfl)
        (try simp only [List.getElem_toArray, List.getElem_cons_succ, List.getElem_cons_zero, Act.put, List.setIfInBounds_toArray, List.set_cons_zero, List.set_cons_succ])
        refine wpAnyH_take (i := 13) (v := ?_) rfl (by kernel_rfl) (by kernel_rfl) (by kernel_rfl) (fun _ _ _ h => h) (Or.inl ⟨by rfl, ?_⟩) (by assumption) ?_
        rotate_left
        · intro w hSw; (try dsimp only at hSw); go_simp; (try with_reducible rfl)
        (try simp only [List.getElem_toArray, List.getElem_cons_succ, List.getElem_cons_zero, Act.put, List.setIfInBounds_toArray, List.set_cons_zero, List.set_cons_succ])
        refine wpAnyH_take (i := 14) (v := ?_) rfl (by kernel_rfl) (by kernel_rfl) (by kernel_rfl) (fun _ _ _ h => h) (Or.inl ⟨by rfl, ?_⟩) (by assumption) ?_
        rotate_left
        · intro w hSw; (try dsimp only at hSw); go_simp; (try with_reducible rfl)
        (try simp only [List.getElem_toArray, List.getElem_cons_succ, List.getElem_cons_zero, Act.put, List.setIfInBounds_toArray, List.set_cons_zero, List.set_cons_succ])
        refine wpAnyH_take (i := 15) (v := ?_) rfl (by kernel_rfl) (by kernel_rfl) (by kernel_rfl) (fun _ _ _ h => h) (Or.inl ⟨by rfl, ?_⟩) (by assumption) ?_
        rotate_left
        · intro w hSw; (try dsimp only at hSw); go_simp; (try with_reducible rfl)
        (try simp only [List.getElem_toArray, List.getElem_cons_succ, List.getElem_cons_zero, Act.put, List.setIfInBounds_toArray, List.set_cons_zero, List.set_cons_succ])
        refine wpAnyH_take (i := 16) (v := ?_) rfl (by kernel_rfl) (by kernel_rfl) (by kernel_rfl) (fun _ _ _ h => h) (Or.inl ⟨by rfl, ?_⟩) (by assumption) ?_
        rotate_left
        · intro w hSw; (try dsimp only at hSw); go_simp; (try with_reducible rfl)
        (try simp only [List.getElem_toArray, List.getElem_cons_succ, List.getElem_cons_zero, Act.put, List.setIfInBounds_toArray, List.set_cons_zero, List.set_cons_succ])
        refine wpAnyH_take (i := 17) (v := ?_) rfl (by kernel_rfl) (by kernel_rfl) (by kernel_rfl) (fun _ _ _ h => h) (Or.inl ⟨by rfl, ?_⟩) (by assumption) ?_
        rotate_left
        · intro w hSw; (try dsimp only at hSw); go_simp; (try with_reducible rfl)
        (try simp only [List.getElem_toArray, List.getElem_cons_succ, List.getElem_cons_zero, Act.put, List.setIfInBounds_toArray, List.set_cons_zero, List.set_cons_succ])
        refine' wpAnyH_take (i := 18) (v := _) rfl (by kernel_rfl) (by kernel_rfl) (by kernel_rfl) (fun _ _ _ h => h) (yieldsIf_load_mid (by rfl) _ _ rfl _ _ rfl _ _ ?hS18 ?hu18 ?hd18 ?hi18) (by assumption) ?rest1
        case hS18 => (intro w hSw; (try dsimp only at hSw); go_split_ands; assumption)
        case hu18 => assumption
        case hd18 => rfl
        case hi18 => first | assumption | (simp only [*]; done)
        (try simp only [List.getElem_toArray, List.getElem_cons_succ, List.getElem_cons_zero, Act.put, List.setIfInBounds_toArray, List.set_cons_zero, List.set_cons_succ])
        refine wpAnyH_take (i := 19) (v := ?_) rfl (by kernel_rfl) (by kernel_rfl) (by kernel_rfl) (fun _ _ _ h => h) (Or.inl ⟨by rfl, ?_⟩) (by assumption) ?_
        rotate_left
        · intro w hSw; (try dsimp only at hSw); go_simp; (try with_reducible rfl)
        (try simp only [List.getElem_toArray, List.getElem_cons_succ, List.getElem_cons_zero, Act.put, List.setIfInBounds_toArray, List.set_cons_zero, List.set_cons_succ])
        refine wpAnyH_take (i := 20) (v := ?_) rfl (by kernel_rfl) (by kernel_rfl) (by kernel_rfl) (fun _ _ _ h => h) (Or.inl ⟨by rfl, ?_⟩) (by assumption) ?_
        rotate_left
        · intro w hSw; (try dsimp only at hSw); go_simp; (try with_reducible rfl)
        (try simp only [List.getElem_toArray, List.getElem_cons_succ, List.getElem_cons_zero, Act.put, List.setIfInBounds_toArray, List.set_cons_zero, List.set_cons_succ])
        refine wpAnyH_take (i := 21) (v := ?_) rfl (by kernel_rfl) (by kernel_rfl) (by kernel_rfl) (fun _ _ _ h => h) (Or.inl ⟨by rfl, ?_⟩) (by assumption) ?_
        rotate_left
        · intro w hSw; (try dsimp only at hSw); go_simp; (try with_reducible rfl)
        (try simp only [List.getElem_toArray, List.getElem_cons_succ, List.getElem_cons_zero, Act.put, List.setIfInBounds_toArray, List.set_cons_zero, List.set_cons_succ])
        refine wpAnyH_take (i := 22) (v := ?_) rfl (by kernel_rfl) (by kernel_rfl) (by kernel_rfl) (fun _ _ _ h => h) (Or.inl ⟨by rfl, ?_⟩) (by assumption) ?_
        rotate_left
        · intro w hSw; (try dsimp only at hSw); go_simp; (try with_reducible rfl)
        (try simp only [List.getElem_toArray, List.getElem_cons_succ, List.getElem_cons_zero, Act.put, List.setIfInBounds_toArray, List.set_cons_zero, List.set_cons_succ])
        refine' wpAnyH_take (i := 23) (v := _) rfl (by kernel_rfl) (by kernel_rfl) (by kernel_rfl) (fun _ _ _ h => h) (yieldsIf_load_mid (by rfl) _ _ rfl _ _ rfl _ _ ?hS23 ?hu23 ?hd23 ?hi23) (by assumption) ?rest2
        case hS23 => (intro w hSw; (try dsimp only at hSw); go_split_ands; assumption)
        case hu23 => assumption
        case hd23 => rfl
        case hi23 => first | assumption | (simp only [*]; done)
        (try simp only [List.getElem_toArray, List.getElem_cons_succ, List.getElem_cons_zero, Act.put, List.setIfInBounds_toArray, List.set_cons_zero, List.set_cons_succ])
        refine wpAnyH_ready (rs := [24]) (by kernel_rfl) (by simp) ?_
        refine AllReadyH.cons rfl (fun K hK => ?_) ?_
        rotate_left
        · exact AllReadyH.nil
        go_simp
        (go_at_call 43; go_split_ands; refine (Ihe.out F G _ x y ax cx ay cy (Hnx.out.below (by assumption)) (Hny.out.below (by assumption))).mono ?_; rintro e wn ⟨rfl, hbn⟩; have Hkn := Lib.hid (below_on (show Below wr.heap.size wr _ by assumption) hbn); clear hbn)
        (try go_wp2_with fail)
        refine hK.out _ _ ?_ (fun hHeld => ?_)
        · (try dsimp only); (first | assumption | exact HK.out _ Hkn.out | exact HK.out _ (on_drew Hkn.out) | exact HK.out _ (on_drew (Below.refl _ _)))
        clear hK K
        (try simp only [List.getElem_toArray, List.getElem_cons_succ, List.getElem_cons_zero, Act.put, List.setIfInBounds_toArray, List.set_cons_zero, List.set_cons_succ])
        refine wpAnyH_take (i := 25) (v := ?_) rfl (by kernel_rfl) (by kernel_rfl) (by kernel_rfl) (fun _ _ _ h => h) (Or.inl ⟨by rfl, ?_⟩) (by assumption) ?_
        rotate_left
        · intro w hSw; (try dsimp only at hSw); go_simp; (try with_reducible rfl)
        (try simp only [List.getElem_toArray, List.getElem_cons_succ, List.getElem_cons_zero, Act.put, List.setIfInBounds_toArray, List.set_cons_zero, List.set_cons_succ])
        refine wpAnyH_take (i := 26) (v := ?_) rfl (by kernel_rfl) (by kernel_rfl) (by kernel_rfl) (fun _ _ _ h => h) (Or.inl ⟨by rfl, ?_⟩) (by assumption) ?_
        rotate_left
        · intro w hSw; (try dsimp only at hSw); go_simp; (try with_reducible rfl)
        (try simp only [List.getElem_toArray, List.getElem_cons_succ, List.getElem_cons_zero, Act.put, List.setIfInBounds_toArray, List.set_cons_zero, List.set_cons_succ])
        refine wpAnyH_done (by kernel_rfl) ?_ _
        refine NoPanic.normal ?_
        have Htw5 := Lib.hid (Htw.out.next Hkn.out)
        clear Hkn hHeld f40 g40 n1 n2 inf41 inf41' und41 HK Htw
        cases hal : x.alike y with
        | true =>
          go_wp2_with fail
          go_roundw
          case rel => exact ⟨k + 1, hlt, by go_num, by rw [Hst.out, decide_eq_true Hnm.out, hal]; rfl, Htw5.out⟩
          case measure => simp [intOf]; omega
        | false =>
          have Hr := Lib.hid (show n.alike u = false by rw [Hst.out, decide_eq_true Hnm.out, hal]; rfl)
          go_wp2
          go_ret
          exact ⟨ret_b Hr.out.symm, Htw5.out.2.2⟩
      · have hb1 : (x.name.toList == y.name.toList) = false := names_ne hnm
        have hb2 : decide (x.name = y.name) = false := decide_eq_false hnm
        have Hr := Lib.hid (show n.alike u = false by rw [Hst.out, hb2]; rfl)
        clear hnm
        go_wp2_with fail
        go_quiet (fail)
        generalize hw : wr.drewN _ = w5
        have Hb5 := Lib.hid (show Below wr.heap.size wr w5 by rw [← hw]; exact (Upd.drewN (Upd.refl (fun _ => False) wr) _).toBelow (fun _ h => h.elim) (Nat.le_refl _))
        clear hw
        go_wp2
        go_ret
        exact ⟨ret_b Hr.out.symm, (Htw.out.next Hb5.out).2.2⟩
    · obtain rfl : k = m := by omega
      have Hr := Lib.hid (show n.alike u = true by rw [Hal.out, List.drop_eq_nil_of_le (by rw [← Hm.out]; exact Nat.le_refl _)]; simp [alikeKids])
      clear hlt
      go_wp2
      go_ret
      exact ⟨ret_b Hr.out.symm, Htw.out.2.2⟩
theorem equal_ok : ∀ (d : Nat) (F G : Nat → Prop) (w : World) (n u : Nd) (a : Option Addr) (c : Nat) (a' : Option Addr) (c' : Nat), NodeIn w F d n a → NodeIn w G d u a' →
      Calls Try.prog 43 #[.agg (n.row a c).toArray, .agg (u.row a' c').toArray] w fun e' w' => e' = .returned (.bool (n.alike u)) ∧ Below w.heap.size w w'
  | 0, F, G, w, n, u, a, c, a', c', hn, hu => equal_step 0 (fun e he => by omega) F G w n u a c a' c' hn hu
  | d + 1, F, G, w, n, u, a, c, a', c', hn, hu => equal_step (d + 1) (fun e he => by
      obtain rfl : d = e := Nat.succ.inj he
      exact equal_ok d) F G w n u a c a' c' hn hu
end Go.Proofs.Ythnbinlllmkabaa
