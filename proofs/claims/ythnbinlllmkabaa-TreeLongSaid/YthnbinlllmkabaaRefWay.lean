/- The reference's above and Sub. (Written by gen_refway.py.) -/
import Derived.Test.YthnbinlllmkabaaRefKid
import Derived.Test.YthnbinlllmkabaaAll2
import Derived.Deep.RegionHeld3
namespace Go.Proofs.Ythnbinlllmkabaa
open Go.RowKit
set_option linter.unusedVariables false
set_option linter.unusedSimpArgs false

theorem there_rowR {w : World} {g : Nat} {t : TypeId} {cs : Array Value} (hr : w.heap[g]? = some (.cells cs t (0, 0))) (o n : Nat) (h : o + n ≤ cs.size) : w.there g o n := by
  intro j hj
  exact ⟨by rw [cell_of_row w g (o + j) _ _ _ hr, Array.getElem?_eq_getElem (by omega)]; rfl, frozen_of_row w g (o + j) _ _ hr⟩
theorem upd_setCells : ∀ (w : World) (g o : Nat) (l : List Value), Upd (fun b => b = g) w (w.setCells g o l)
  | w, g, o, [] => Upd.refl _ w
  | w, g, o, v :: l => by
    have h1 : Upd (fun b => b = g) w (w.setCell ⟨g, o, none⟩ v) := (Upd.refl _ _).setCell _ _ (fun _ => rfl)
    exact h1.trans (upd_setCells _ g (o + 1) l)
theorem heap_setCells_at : ∀ (l : List Value) (w : World) (g o : Nat) (cs : List Value) (t : TypeId), w.heap[g]? = some (.cells cs.toArray t (0, 0)) → o + l.length ≤ cs.length → (w.setCells g o l).heap[g]? = some (.cells (cs.take o ++ (l ++ cs.drop (o + l.length))).toArray t (0, 0))
  | [], w, g, o, cs, t, h, hl => by
    show w.heap[g]? = _
    rw [h]
    simp
  | v :: l, w, g, o, cs, t, h, hl => by
    simp only [List.length_cons] at hl
    have h1 := heap_setCell_same w g o _ _ v h
    rw [show cs.toArray.setIfInBounds o v = (cs.set o v).toArray by apply Array.ext'; rw [Array.toList_setIfInBounds]] at h1
    have h2 := heap_setCells_at l _ g (o + 1) _ t h1 (by rw [List.length_set]; omega)
    have e : (cs.set o v).take (o + 1) ++ (l ++ (cs.set o v).drop (o + 1 + l.length)) = cs.take o ++ (v :: l ++ cs.drop (o + (l.length + 1))) := by
      rw [List.take_succ_eq_append_getElem (by rw [List.length_set]; omega), List.getElem_set_self, List.take_set_of_le (Nat.le_refl _), List.drop_set_of_lt (by omega), List.append_assoc, show o + 1 + l.length = o + (l.length + 1) by omega]
      rfl
    rw [e] at h2
    exact h2
theorem heap_setCells8 (w : World) (B : Nat) (cs l : List Value) {t : TypeId} (h : w.heap[B]? = some (.cells cs.toArray t (0, 0))) (hl : cs.length = l.length) : (w.setCells B 0 l).heap[B]? = some (.cells l.toArray t (0, 0)) := by
  have h1 := heap_setCells_at l w B 0 cs t h (by omega)
  rw [List.take_zero, List.nil_append, Nat.zero_add, List.drop_of_length_le (by omega), List.append_nil] at h1
  exact h1
theorem kidOr_parts {n : Nd} {t : ByteArray} (h : n.parts ≤ 1000000) : (kidOr n.kids t).parts ≤ 1000000 := by
  unfold kidOr
  cases hk : kidOf n.kids t with
  | none => decide
  | some k =>
    obtain ⟨h1, h2⟩ := List.getElem?_eq_some_iff.1 (kidOf_some hk).1
    have h3 := partsAll_get h1
    have h4 := parts_eq n
    rw [h2] at h3
    show k.parts ≤ _
    omega
/-- Is what stands above the last name a directory, all the way, as the reference asks? -/
def wayR : Nd → List ByteArray → Bool
  | _, [] => true
  | n, [_] => decide (n.v.kind = 1)
  | n, t :: u :: l => decide (n.v.kind = 1) && wayR (kidOr n.kids t) (u :: l)
theorem wayR_no (u : ByteArray) : ∀ l, wayR noNd (u :: l) = false
  | [] => rfl
  | x :: l => by rw [wayR]; rfl
theorem wayR_eq : ∀ (l : List ByteArray) (n : Nd), wayR n l = wayOf n l
  | [], n => by cases n; rfl
  | [t], n => by cases n; rfl
  | t :: u :: l, n => by
    rw [wayR, wayOf_two]
    unfold kidOr
    cases hk : kidOf n.kids t with
    | none => show (_ && wayR noNd (u :: l)) = false; rw [wayR_no, Bool.and_false]
    | some k => show (_ && wayR k (u :: l)) = _; rw [wayR_eq (u :: l) k]
theorem wayR_bad {n : Nd} (h : n.v.kind ≠ 1) (t : ByteArray) (l : List ByteArray) : wayR n (t :: l) = false := by
  cases l with
  | nil => rw [wayR]; exact decide_eq_false h
  | cons u l => rw [wayR, decide_eq_false h]; rfl
theorem wayR_last {n : Nd} (h : n.v.kind = 1) (t : ByteArray) : wayR n [t] = true := by rw [wayR]; exact decide_eq_true h
theorem wayR_go {n : Nd} (h : n.v.kind = 1) (t u : ByteArray) (l : List ByteArray) : wayR n (t :: u :: l) = wayR (kidOr n.kids t) (u :: l) := by rw [wayR, decide_eq_true h]; rfl
set_option maxHeartbeats 8000000 in
set_option maxRecDepth 100000 in
/-- The reference's above. -/
theorem refAbove_ok (F : Nat → Prop) (d : Nat) (w : World) (n : Nd) (a : Option Addr) (c : Nat) (L : List ByteArray) (al : Option Addr) (nl cl : Nat) (hn : NodeIn w F d n a) (hF : ∀ b, F b → b < w.heap.size) (hpt : n.parts ≤ 1000000) (hsl : Sl w 1 (.slice al nl cl) nl (strs L)) (hnl : L.length = nl) (hn1 : nl ≤ 1000000) :
    Calls Try.prog 88 #[.agg (n.row a c).toArray, .slice al nl cl] w fun e w' => e = .returned (.bool (wayOf n L)) ∧ Below w.heap.size w w' := by
  rw [← wayR_eq]
  have Hsl := Lib.hid hsl
  have hblk := heap_alloc_new w (.cells (n.row a c).toArray 30)
  have hbl := on_alloc (Below.refl _ w) (.cells (n.row a c).toArray 30)
  have Hn := Lib.hid hn
  go_enter Try.func88, Try.ntmps88
  go_wp2_with fail
  obtain ⟨B, hB⟩ : ∃ B, B = w.heap.size := ⟨_, rfl⟩
  generalize w.alloc (.cells (n.row a c).toArray 30) = w2 at hblk hbl ⊢
  rw [← hB] at hblk
  rw [← hB]
  have hBw : w.heap.size ≤ B := by omega
  have Hblk := Lib.hid hblk
  have Hbl := Lib.hid hbl
  clear hblk hbl hB hn hsl
  go_loopw [5] (fun i wr => ∃ (k : Nat) (m : Nd) (a' : Option Addr) (c' : Nat), k ≤ nl ∧ i = .int .i64 k ∧ wr.heap[B]? = some (.cells (m.row a' c').toArray 30 (0, 0)) ∧ NodeIn wr F d m a' ∧ m.parts ≤ 1000000 ∧ wayR m (L.drop k) = wayR n L ∧ Below w.heap.size w wr) (fun i _ => nl - (intOf i).toNat)
  case atStart => exact ⟨0, n, a, c, Nat.zero_le _, rfl, Hblk.out, Hn.out.below Hbl.out, hpt, rfl, Hbl.out⟩
  case round =>
    obtain ⟨k, m, a', c', hk, rfl, hbk, hmn, hmp, hway, hbe⟩ := hrel
    have Hbk := Lib.hid hbk
    have Hm := Lib.hid hmn
    have Hway := Lib.hid hway
    have Hbe := Lib.hid hbe
    have hm41 := Lib.hid (row_len (a := a') (c := c') hmn.vwf)
    have f1 : wr.cell? ⟨B, 1, none⟩ = some (.int .i64 m.v.kind) := by
      have h := (vl_at (nrow_at (o := 0) hmn.vwf (rangeAt_row hbk)).2.1).1
      simpa using h
    have hBr : B < wr.heap.size := lt_heap hbk
    clear hbk hmn hway hbe
    by_cases hlt : k < nl
    · have i1 : (0 : Int) ≤ (k : Int) := by omega
      have i2 : (k : Int) < (nl : Int) := by omega
      obtain ⟨x, hx⟩ : ∃ x, x = L[k]'(by omega) := ⟨_, rfl⟩
      have hdk : L.drop k = x :: L.drop (k + 1) := by rw [hx]; exact List.drop_eq_getElem_cons _
      obtain ⟨g, off, hal, _, hcc⟩ := Hsl.out.open_ (by simp [strs]; omega)
      have hg0 := hcc k (.string x) (by simp [strs, hx, List.getElem?_eq_getElem (show k < L.length by omega)])
      have hgl : g < w.heap.size := World.block_lt_of_cell? w _ hg0
      have f0 : wr.cell? ⟨g, off + k, none⟩ = some (.string x) := (Hbe.out.cell hgl).trans hg0
      have hgB : ¬ g = B := by omega
      have hgw : g < wr.heap.size := Nat.lt_of_lt_of_le hgl Hbe.out.size
      by_cases hkd : m.v.kind = 1
      · have q1 : (m.v.kind != 1) = false := by rw [hkd]; rfl
        by_cases hl1 : k + 1 < nl
        · have i3 : (k : Int) + 1 < (nl : Int) := by omega
          obtain ⟨u, rest, hrest⟩ : ∃ u rest, L.drop (k + 1) = u :: rest := ⟨_, _, List.drop_eq_getElem_cons (show k + 1 < L.length by omega)⟩
          have Hgo := Lib.hid (show wayR (kidOr m.kids x) (L.drop (k + 1)) = wayR n L by rw [← Hway.out, hdk, hrest, wayR_go hkd])
          have HSd := Lib.hid (show wr.drew.cell? ⟨g, off + k, none⟩ = some (.string x) from f0)
          have Hbd := Lib.hid (show wr.drew.heap[B]? = some (.cells (m.row a' c').toArray 30 (0, 0)) from Hbk.out)
          have Hcall := Lib.hid (refKid_ok F d wr.drew m x a' c' ((Hm.out.kept ((Upd.refl (fun _ => False) wr).drew) (fun _ _ => id)).deeper (Nat.le_succ d)) (fun b hb => Nat.lt_of_lt_of_le (hF b hb) Hbe.out.size) hmp)
          have hmp8 := kidOr_parts (n := m) (t := x) hmp
          subst hal
          clear hcc hx hdk hrest
          go_upto_region 7 with fail
          refine wp_region_noPanic ?_
          refine wp_region_held_drew (S := (fun w' => w'.cell? ⟨g, off + k, none⟩ = some (.string x))) (by kernel_rfl) HSd.out (fun hHeld => ?_)
          refine wpAnyH_take (i := 1) (v := ?_) rfl (by kernel_rfl) (by kernel_rfl) (by kernel_rfl) (fun _ _ _ h => h) (Or.inl ⟨by rfl, ?_⟩) (by assumption) ?_
          rotate_left
          · intro w hSw; (try dsimp only at hSw); go_simp; (try with_reducible rfl)
          (try simp only [List.getElem_toArray, List.getElem_cons_succ, List.getElem_cons_zero, Act.put, List.setIfInBounds_toArray, List.set_cons_zero, List.set_cons_succ])
          refine wpAnyH_take (i := 2) (v := ?_) rfl (by kernel_rfl) (by kernel_rfl) (by kernel_rfl) (fun _ _ _ h => h) (Or.inl ⟨by rfl, ?_⟩) (by assumption) ?_
          rotate_left
          · intro w hSw; (try dsimp only at hSw); go_simp; (try with_reducible rfl)
          (try simp only [List.getElem_toArray, List.getElem_cons_succ, List.getElem_cons_zero, Act.put, List.setIfInBounds_toArray, List.set_cons_zero, List.set_cons_succ])
          refine wpAnyH_take (i := 3) (v := ?_) rfl (by kernel_rfl) (by kernel_rfl) (by kernel_rfl) (fun _ _ _ h => h) (Or.inl ⟨by rfl, ?_⟩) (by assumption) ?_
          rotate_left
          · intro w hSw; (try dsimp only at hSw); go_simp; (try with_reducible rfl)
          (try simp only [List.getElem_toArray, List.getElem_cons_succ, List.getElem_cons_zero, Act.put, List.setIfInBounds_toArray, List.set_cons_zero, List.set_cons_succ])
          refine wpAnyH_take (i := 4) (v := ?_) rfl (by kernel_rfl) (by kernel_rfl) (by kernel_rfl) (fun _ _ _ h => h) (Or.inl ⟨by rfl, ?_⟩) (by assumption) ?_
          rotate_left
          · intro w hSw; (try dsimp only at hSw); go_simp; (try with_reducible rfl)
          (try simp only [List.getElem_toArray, List.getElem_cons_succ, List.getElem_cons_zero, Act.put, List.setIfInBounds_toArray, List.set_cons_zero, List.set_cons_succ])
          refine wpAnyH_ready (rs := [0]) (by kernel_rfl) (by simp) ?_
          refine AllReadyH.cons rfl (fun K hK => ?_) AllReadyH.nil
          rw [if_pos (by rfl)]
          refine wp_load_mid 30 (.tmp 2) rfl B 0 rfl (m.row a' c') _ (rangeAt_row Hbd.out) Try.underlying30 rfl (by rw [hm41.out]; kernel_rfl) ?_
          refine hK.out _ _ HSd.out (fun hHeld => ?_)
          clear hK K
          (try simp only [List.getElem_toArray, List.getElem_cons_succ, List.getElem_cons_zero, Act.put, List.setIfInBounds_toArray, List.set_cons_zero, List.set_cons_succ])
          refine wpAnyH_ready (rs := [5]) (by kernel_rfl) (by simp) ?_
          refine AllReadyH.cons rfl (fun K hK => ?_) AllReadyH.nil
          go_simp
          refine Hcall.out.mono ?_
          rintro e8 w8 ⟨a8, c8, rfl, hn8, hb8⟩
          have hb8' : Below wr.heap.size wr w8 := below_on (on_drew (Below.refl wr.heap.size wr)) hb8
          have HS8 := Lib.hid (show w8.cell? ⟨g, off + k, none⟩ = some (.string x) from (hb8'.cell hgw).trans f0)
          have Hb8 := Lib.hid hb8'
          have Hn8 := Lib.hid hn8
          have Hbk8 := Lib.hid ((hb8'.block B hBr).trans Hbk.out)
          obtain ⟨y, hy⟩ : ∃ y, y = kidOr m.kids x := ⟨_, rfl⟩
          rw [← hy] at Hn8
          rw [← hy]
          have Hy := Lib.hid hy
          have hy41s := Lib.hid (show (y.row a8 c8).toArray.size = 41 by rw [List.size_toArray]; exact row_len Hn8.out.vwf)
          have Hth := Lib.hid (show w8.there B 0 41 from there_rowR Hbk8.out 0 41 (by rw [List.size_toArray, hm41.out]; omega))
          have hse := heap_setCells8 w8 B (m.row a' c') (y.row a8 c8) Hbk8.out (by rw [hm41.out, row_len Hn8.out.vwf])
          have hsu := upd_setCells w8 B 0 (y.row a8 c8)
          obtain ⟨w9, hw9⟩ : ∃ w9, w9 = w8.setCells B 0 (y.row a8 c8).toArray.toList := ⟨_, rfl⟩
          rw [show w8.setCells B 0 (y.row a8 c8) = w9 from hw9.symm] at hse hsu
          have Hw9 := Lib.hid hw9
          have Hse := Lib.hid hse
          have Hsu := Lib.hid hsu
          have HS9 := Lib.hid (show w9.cell? ⟨g, off + k, none⟩ = some (.string x) from hsu.cell HS8.out (fun e => hgB e))
          clear hb8 hb8' hn8 hy hw9 hse hsu Hcall
          (try go_wp2_with fail)
          refine hK.out _ _ HS8.out (fun hHeld => ?_)
          clear hK K
          (try simp only [List.getElem_toArray, List.getElem_cons_succ, List.getElem_cons_zero, Act.put, List.setIfInBounds_toArray, List.set_cons_zero, List.set_cons_succ])
          refine wpAnyH_ready (rs := [6]) (by kernel_rfl) (by simp) ?_
          refine AllReadyH.cons rfl (fun K hK => ?_) AllReadyH.nil
          rw [if_pos (by rfl)]
          refine wp_store_mid 30 (.tmp 2) (.tmp 26) rfl B 0 (y.row a8 c8).toArray rfl rfl (by rw [hy41s.out]; exact Hth.out) (by rw [hy41s.out]; kernel_rfl) (all_one (nrow_one _ _ _ _ _ _)) ?_
          rw [← Hw9.out]
          refine hK.out _ _ HS9.out (fun hHeld => ?_)
          clear hK K
          (try simp only [List.getElem_toArray, List.getElem_cons_succ, List.getElem_cons_zero, Act.put, List.setIfInBounds_toArray, List.set_cons_zero, List.set_cons_succ])
          refine wpAnyH_done (by kernel_rfl) ?_ _
          refine NoPanic.normal ?_
          have hu9 : Upd (fun b => b = B) wr w9 := (Upd.below Hb8.out (fun b => b = B)).trans Hsu.out
          have Hn9 := Lib.hid (Hn8.out.kept Hsu.out (fun b hb e => by have e' : b = B := e; have := hF b hb; omega))
          have Hbe9 := Lib.hid (Hbe.out.upd (Nat.le_refl _) hu9 (fun b hb => by have hb' : b = B := hb; omega))
          clear hHeld hu9 f0 f1
          go_wp2_with fail
          go_roundw
          case rel => exact ⟨k + 1, y, a8, c8, hlt, by go_num, Hse.out, Hn9.out, by rw [Hy.out]; exact hmp8, by rw [Hy.out]; exact Hgo.out, Hbe9.out⟩
          case measure => simp [intOf]; omega
        · have i3 : (nl : Int) ≤ (k : Int) + 1 := by omega
          have hl2 : L.drop (k + 1) = [] := List.drop_of_length_le (by omega)
          have Hgo := Lib.hid (show wayR m (L.drop (k + 1)) = wayR n L by rw [← Hway.out, hdk, hl2, wayR_last hkd]; cases m; rfl)
          clear hcc hx hdk f0
          go_wp2
          go_roundw
          case rel => exact ⟨k + 1, m, a', c', hlt, by go_num, Hbk.out, Hm.out, hmp, Hgo.out, Hbe.out⟩
          case measure => simp [intOf]; omega
      · have q1 : (m.v.kind != 1) = true := by rw [bne_iff_ne]; exact hkd
        have Hres := Lib.hid (show wayR n L = false by rw [← Hway.out, hdk, wayR_bad hkd])
        clear hcc hx hdk f0
        go_wp2
        go_ret
        exact ⟨by rw [Hres.out]; rfl, Hbe.out⟩
    · obtain rfl : k = nl := by omega
      have Hres := Lib.hid (show wayR n L = true by rw [← Hway.out, List.drop_of_length_le (by omega)]; cases m; rfl)
      clear hlt
      go_wp2
      go_ret
      exact ⟨by rw [Hres.out]; rfl, Hbe.out⟩
end Go.Proofs.Ythnbinlllmkabaa
