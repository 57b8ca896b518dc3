/- What lies still while TreeWalks goes; its closure over All. -/
import Derived.Test.YthnbinlllmkabaaSSpots
import Derived.Test.YthnbinlllmkabaaRound
namespace Go.Proofs.Ythnbinlllmkabaa
open Go.RowKit Go.Shelf
set_option linter.unusedVariables false
set_option linter.unusedSimpArgs false

/-- What the law has made before it goes through the iterators: all below B0. -/
structure WSt (w0 W : World) (B0 b2 b9 b10 tc ta b11 b12 p d dt : Nat) (n : Nd) (a : Option Addr) (c M : Nat) (aw : Option Addr) (cw : Nat) (an : Option Addr) (cn : Nat) : Prop where
  lt : b2 < B0 ∧ b9 < B0 ∧ b10 < B0 ∧ tc < B0 ∧ ta < B0 ∧ b11 < B0 ∧ b12 < B0 ∧ w0.heap.size ≤ B0
  box : W.heap[b2]? = some (.cells (n.row a c).toArray 30 (0, 0))
  hc : W.heap[b9]? = some (.cells #[.func (.func 78) #[] #[.pointer (some ⟨tc, 0, none⟩)]] 64 (0, 0))
  ha : W.heap[b10]? = some (.cells #[.func (.func 79) #[] #[.pointer (some ⟨ta, 0, none⟩)]] 67 (0, 0))
  htc : W.heap[tc]? = some (.cells #[.pointer (some ⟨p, 0, none⟩)] 55 (0, 0))
  hta : W.heap[ta]? = some (.cells #[.pointer (some ⟨p, 0, none⟩)] 55 (0, 0))
  hw : W.heap[b11]? = some (.cells #[.slice aw M cw] 69 (0, 0))
  hn : W.heap[b12]? = some (.cells #[.slice an n.kids.length cn] 71 (0, 0))
  src : NodeIn W (fun b => b < B0) d n a
  tree : TreeAt W (fun b => b < B0) dt p n
  want : Sl W 40 (.slice aw M cw) M (srows (allOf n ⟨#[]⟩))
  wantlt : ∀ b, ob aw = some b → b < B0
  names : Sl W 1 (.slice an n.kids.length cn) n.kids.length (strs (n.kids.map Nd.name))
  nameslt : ∀ b, ob an = some b → b < B0
  low : Below w0.heap.size w0 W
section
variable {w0 W : World} {B0 b2 b9 b10 tc ta b11 b12 p d dt : Nat} {n : Nd} {a : Option Addr} {c M : Nat} {aw : Option Addr} {cw : Nat} {an : Option Addr} {cn : Nat}
theorem WSt.kept (h : WSt w0 W B0 b2 b9 b10 tc ta b11 b12 p d dt n a c M aw cw an cn) {W' : World} (hu : Upd (fun b => B0 ≤ b) W W') : WSt w0 W' B0 b2 b9 b10 tc ta b11 b12 p d dt n a c M aw cw an cn := by
  obtain ⟨l1, l2, l3, l4, l5, l6, l7, l8⟩ := h.lt
  exact ⟨h.lt, hu.at_ h.box (by omega), hu.at_ h.hc (by omega), hu.at_ h.ha (by omega), hu.at_ h.htc (by omega), hu.at_ h.hta (by omega), hu.at_ h.hw (by omega), hu.at_ h.hn (by omega), h.src.kept hu (fun b hb => by omega), TreeAt.kept hu (fun b hb => by omega) _ _ _ h.tree,
    h.want.kept hu (fun k hk _ => by have := h.wantlt k (by rw [← own_ob aw M cw]; exact hk); omega), h.wantlt, h.names.kept hu (fun k hk _ => by have := h.nameslt k (by rw [← own_ob an n.kids.length cn]; exact hk); omega), h.nameslt, h.low.upd (Nat.le_refl _) hu (fun b hb => by omega)⟩
theorem WSt.below (h : WSt w0 W B0 b2 b9 b10 tc ta b11 b12 p d dt n a c M aw cw an cn) {W' : World} (hb : Below W.heap.size W W') : WSt w0 W' B0 b2 b9 b10 tc ta b11 b12 p d dt n a c M aw cw an cn := h.kept (Upd.below hb _)
end
theorem cell1 {w : World} {b : Nat} {v : Value} {T : TypeId} {fr : Nat × Nat} (h : w.heap[b]? = some (.cells #[v] T fr)) : w.cell? ⟨b, 0, none⟩ = some v := by
  rw [cell_of_row w b 0 _ _ _ h]; rfl
set_option maxHeartbeats 8000000 in
set_option maxRecDepth 100000 in
theorem walks1_ok (w0 W : World) (B0 b2 b9 b10 tc ta b11 b12 p d dt : Nat) (n : Nd) (a : Option Addr) (c M : Nat) (aw : Option Addr) (cw : Nat) (an : Option Addr) (cn bok bi i : Nat) (x : ByteArray × Vl × (Mk × Mk)) (hs : WSt w0 W B0 b2 b9 b10 tc ta b11 b12 p d dt n a c M aw cw an cn) (hpt : n.parts ≤ 1000000) (hM : n.cnt = M)
    (hok : W.heap[bok]? = some (.cells #[.bool true] 4 (0, 0))) (hi : W.heap[bi]? = some (.cells #[.int .i64 (i : Nat)] 3 (0, 0))) (hbo : B0 ≤ bok) (hbi : B0 ≤ bi) (hx : (allOf n ⟨#[]⟩)[i]? = some x) :
    Calls Try.prog 25 (#[.string x.1, .agg x.2.1.cells.toArray] ++ #[.pointer (some ⟨b10, 0, none⟩), .pointer (some ⟨bok, 0, none⟩), .pointer (some ⟨b11, 0, none⟩), .pointer (some ⟨bi, 0, none⟩)]) W fun e W' =>
      e = .returned (.bool true) ∧ W'.heap[bok]? = some (.cells #[.bool true] 4 (0, 0)) ∧ W'.heap[bi]? = some (.cells #[.int .i64 ((i + 1 : Nat) : Int)] 3 (0, 0)) ∧ Upd (fun b => B0 ≤ b) W W' := by
  have hML : (allOf n ⟨#[]⟩).length = M := by rw [allOf_length]; exact hM
  have hM6 : M ≤ 1000000 := by rw [← hM]; exact Nat.le_trans (cnt_le_parts n) hpt
  have hiM : i < M := by rw [← hML]; exact (List.getElem?_eq_some_iff.1 hx).1
  have hwf := treeAt_wf dt p n hs.tree ⟨#[]⟩
  obtain ⟨gw, ow, rfl, _, cb, rb⟩ := srows_cell hs.want hwf hx
  have hvw := hwf x (List.mem_of_getElem? hx)
  obtain ⟨s, v, mm⟩ := x
  dsimp only at cb rb hvw
  have Hs := Lib.hid hs
  have Hwf := Lib.hid hwf
  have Hpt := Lib.hid hpt
  have hbokW := lt_heap hok
  have hbiW := lt_heap hi
  have hb7 := on_alloc (Below.refl _ W) (.cells v.cells.toArray 24)
  have hbox := heap_alloc_new W (.cells v.cells.toArray 24)
  have fa := cell1 ((Below.heap_alloc W (.cells v.cells.toArray 24) b10 (lt_heap hs.ha)).trans hs.ha)
  have Hx := Lib.hid (And.intro cb (And.intro rb (And.intro hok hi)))
  have hvl := Lib.hid (v.cells_length hvw)
  clear hs hwf hpt cb rb hx hok hi
  go_enter Try.func25, Try.ntmps25
  go_wp2_with fail
  generalize W.alloc (.cells v.cells.toArray 24) = w1 at hb7 hbox fa ⊢
  obtain ⟨B7, hB7⟩ : ∃ B7, B7 = W.heap.size := ⟨_, rfl⟩
  rw [← hB7] at hbox
  rw [← hB7]
  have Hb7 := Lib.hid hb7
  have HB7 := Lib.hid hB7
  have hs1 := Hs.out.below hb7
  have hspots := spots_ok (fun b => b < B0) dt w1 ta p n 0 hs1.tree (fun b hb => by have := hb7.size; omega) Hpt.out (cell1 hs1.hta) (by unfold i64; omega)
  have Hspots := Lib.hid hspots
  have Hbox := Lib.hid hbox
  clear hspots hs1 hbox hb7 hB7 fa
  refine Hspots.out.mono ?_
  rintro e w2 ⟨a3, c3, k3, rfl, hk3, hown3, hnew3, hb2⟩
  have hk3M : k3 = M := by rw [hk3, limOf, if_pos (by omega)]; exact hM
  subst hk3M
  have Hw2 := Lib.hid (below_on Hb7.out hb2)
  have Hsp := Lib.hid hown3.sl
  have Hwant := Lib.hid (Hs.out.below Hw2.out).want
  have hu2 := Upd.below Hw2.out (fun _ => False)
  have HS0 := Lib.hid (show w2.heap[bok]? = some (.cells #[.bool true] 4 (0, 0)) ∧ w2.heap[bi]? = some (.cells #[.int .i64 (i : Nat)] 3 (0, 0)) ∧ w2.heap[b11]? = some (.cells #[.slice (some ⟨gw, ow, none⟩) k3 cw] 69 (0, 0)) ∧ w2.cell? ⟨gw, ow + i * 40, none⟩ = some (.string s) ∧ w2.rangeAt gw (ow + i * 40 + 1) v.cells ∧ w2.rangeAt B7 0 v.cells from
    ⟨hu2.at_ Hx.out.2.2.1 id, hu2.at_ Hx.out.2.2.2 id, (Hs.out.below Hw2.out).hw, hu2.cell Hx.out.1 id, rangeAt_kept Hx.out.2.1 hu2 id, rangeAt_kept (rangeAt_row Hbox.out) (Upd.below hb2 (fun _ => False)) id⟩)
  have HS := Lib.hid (show ∀ w', Below w2.heap.size w2 w' → w'.cell? ⟨bok, 0, none⟩ = some (.bool true) ∧ w'.frozen? ⟨bok, 0, none⟩ = false ∧ w'.cell? ⟨b11, 0, none⟩ = some (.slice (some ⟨gw, ow, none⟩) k3 cw) ∧ w'.cell? ⟨bi, 0, none⟩ = some (.int .i64 (i : Nat)) ∧ w'.cell? ⟨gw, ow + i * 40, none⟩ = some (.string s) ∧ w'.rangeAt gw (ow + i * 40 + 1) v.cells ∧ w'.rangeAt B7 0 v.cells from fun w' hb => by
    have hu := Upd.below hb (fun _ => False)
    obtain ⟨q1, q2, q3, q4, q5, q6⟩ := HS0.out
    exact ⟨cell1 (hu.at_ q1 id), frozen_of_row _ _ _ _ _ (hu.at_ q1 id), cell1 (hu.at_ q3 id), cell1 (hu.at_ q2 id), hu.cell q4 id, rangeAt_kept q5 hu id, rangeAt_kept q6 hu id⟩)
  have hz := fun w => eq_value v v hvw.1 hvw.1 w
  have inf35 : (Try.prog.info? 24).map (·.size) = some v.cells.length := by rw [hvl.out]; kernel_rfl
  have und35 := Try.underlying24
  have i1 : (0 : Int) ≤ (i : Int) := by omega
  have i3 : (i : Int) < (k3 : Int) := by omega
  have hgB : gw ≠ bok := by
    have := Hs.out.wantlt gw rfl
    omega
  have hb11 : b11 ≠ bok := by have := Hs.out.lt; omega
  have hbb : bi ≠ bok := by
    intro e
    have q1 := HS0.out.1
    have q2 := HS0.out.2.1
    rw [e, q1] at q2
    injection q2 with q2
    injection q2 with _ hT _
    exact absurd hT (by decide)
  have hB7b : B7 ≠ bok := by have := HB7.out; omega
  clear hown3 hnew3 hb2 hu2 hk3
  go_wp2_with fail
  refine wp_region_noPanic ?_
  refine wp_region_held_drew (S := (fun w' => w'.cell? ⟨bok, 0, none⟩ = some (.bool true) ∧ w'.frozen? ⟨bok, 0, none⟩ = false ∧ w'.cell? ⟨b11, 0, none⟩ = some (.slice (some ⟨gw, ow, none⟩) k3 cw) ∧ w'.cell? ⟨bi, 0, none⟩ = some (.int .i64 (i : Nat)) ∧ w'.cell? ⟨gw, ow + i * 40, none⟩ = some (.string s) ∧ w'.rangeAt gw (ow + i * 40 + 1) v.cells ∧ w'.rangeAt B7 0 v.cells)) (by kernel_rfl) ?_ (fun hHeld => ?_)
  · (try dsimp only); (first | exact HS.out _ Hk1.out | exact HS.out _ (on_drew (Below.refl _ _)) | exact HS.out _ (Below.refl _ _))
  refine wpAnyH_take (i := 0) (v := ?_) rfl (by kernel_rfl) (by kernel_rfl) (by kernel_rfl) (fun _ _ _ h => h) (Or.inl ⟨by rfl, ?_⟩) (by assumption) ?_
  rotate_left
  · intro w hSw; (try dsimp only at hSw); go_simp; (try with_reducible rfl)
  (try simp only [List.getElem_toArray, List.getElem_cons_succ, List.getElem_cons_zero, Act.put, List.setIfInBounds_toArray, List.set_cons_zero, List.set_cons_succ])
  refine wpAnyH_take (i := 1) (v := ?_) rfl (by kernel_rfl) (by kernel_rfl) (by kernel_rfl) (fun _ _ _ h => h) (Or.inl ⟨by rfl, ?_⟩) (by assumption) ?_
  rotate_left
  · intro w hSw; (try dsimp only at hSw); go_simp; (try with_reducible rfl)
  (try simp only [List.getElem_toArray, List.getElem_cons_succ, List.getElem_cons_zero, Act.put, List.setIfInBounds_toArray, List.set_cons_zero, List.set_cons_succ])
  refine wpAnyH_take (i := 2) (v := ?_) rfl (by kernel_rfl) (by kernel_rfl) (by kernel_rfl) (fun _ _ _ h => h) (Or.inl ⟨by rfl, ?_⟩) (by assumption) ?_
  rotate_left
  · intro w hSw; (try dsimp only at hSw); go_simp; (try with_reducible rfl)
  (try simp only [List.getElem_toArray, List.getElem_cons_succ, List.getElem_cons_zero, Act.put, List.setIfInBounds_toArray, List.set_cons_zero, List.set_cons_succ])
  refine wpAnyH_take (i := 3) (v := ?_) rfl (by kernel_rfl) (by kernel_rfl) (by kernel_rfl) (fun _ _ _ h => h) (Or.inl ⟨by rfl, ?_⟩) (by assumption) ?_
  rotate_left
  · intro w hSw; (try dsimp only at hSw); go_simp; (try with_reducible rfl)
  (try simp only [List.getElem_toArray, List.getElem_cons_succ, List.getElem_cons_zero, Act.put, List.setIfInBounds_toArray, List.set_cons_zero, List.set_cons_succ])
  refine wpAnyH_take (i := 4) (v := ?_) rfl (by kernel_rfl) (by kernel_rfl) (by kernel_rfl) (fun _ _ _ h => h) (Or.inl ⟨by rfl, ?_⟩) (by assumption) ?_
  rotate_left
  · intro w hSw; (try dsimp only at hSw); go_simp; (try with_reducible rfl)
  (try simp only [List.getElem_toArray, List.getElem_cons_succ, List.getElem_cons_zero, Act.put, List.setIfInBounds_toArray, List.set_cons_zero, List.set_cons_succ])
  refine wpAnyH_take (i := 5) (v := ?_) rfl (by kernel_rfl) (by kernel_rfl) (by kernel_rfl) (fun _ _ _ h => h) (Or.inl ⟨by rfl, ?_⟩) (by assumption) ?_
  rotate_left
  · intro w hSw; (try dsimp only at hSw); go_simp; (try with_reducible rfl)
  (try simp only [List.getElem_toArray, List.getElem_cons_succ, List.getElem_cons_zero, Act.put, List.setIfInBounds_toArray, List.set_cons_zero, List.set_cons_succ])
  refine wpAnyH_take (i := 6) (v := ?_) rfl (by kernel_rfl) (by kernel_rfl) (by kernel_rfl) (fun _ _ _ h => h) (Or.inl ⟨by rfl, ?_⟩) (by assumption) ?_
  rotate_left
  · intro w hSw; (try dsimp only at hSw); go_simp; (try with_reducible rfl)
  (try simp only [List.getElem_toArray, List.getElem_cons_succ, List.getElem_cons_zero, Act.put, List.setIfInBounds_toArray, List.set_cons_zero, List.set_cons_succ])
  refine wpAnyH_take (i := 7) (v := ?_) rfl (by kernel_rfl) (by kernel_rfl) (by kernel_rfl) (fun _ _ _ h => h) (Or.inl ⟨by rfl, ?_⟩) (by assumption) ?_
  rotate_left
  · intro w hSw; (try dsimp only at hSw); go_simp; (try with_reducible rfl)
  (try simp only [List.getElem_toArray, List.getElem_cons_succ, List.getElem_cons_zero, Act.put, List.setIfInBounds_toArray, List.set_cons_zero, List.set_cons_succ])
  refine wpAnyH_take (i := 8) (v := ?_) rfl (by kernel_rfl) (by kernel_rfl) (by kernel_rfl) (fun _ _ _ h => h) (Or.inl ⟨by rfl, ?_⟩) (by assumption) ?_
  rotate_left
  · intro w hSw; (try dsimp only at hSw); go_simp; (try with_reducible rfl)
  (try simp only [List.getElem_toArray, List.getElem_cons_succ, List.getElem_cons_zero, Act.put, List.setIfInBounds_toArray, List.set_cons_zero, List.set_cons_succ])
  refine wpAnyH_take (i := 9) (v := ?_) rfl (by kernel_rfl) (by kernel_rfl) (by kernel_rfl) (fun _ _ _ h => h) (Or.inl ⟨by rfl, ?_⟩) (by assumption) ?_
  rotate_left
  · intro w hSw; (try dsimp only at hSw); go_simp; (try with_reducible rfl)
  (try simp only [List.getElem_toArray, List.getElem_cons_succ, List.getElem_cons_zero, Act.put, List.setIfInBounds_toArray, List.set_cons_zero, List.set_cons_succ])
  refine wpAnyH_take (i := 10) (v := ?_) rfl (by kernel_rfl) (by kernel_rfl) (by kernel_rfl) (fun _ _ _ h => h) (Or.inl ⟨by rfl, ?_⟩) (by assumption) ?_
  rotate_left
  · intro w hSw; (try dsimp only at hSw); go_simp; (try with_reducible rfl)
  (try simp only [List.getElem_toArray, List.getElem_cons_succ, List.getElem_cons_zero, Act.put, List.setIfInBounds_toArray, List.set_cons_zero, List.set_cons_succ])
  refine wpAnyH_take (i := 11) (v := ?_) rfl (by kernel_rfl) (by kernel_rfl) (by kernel_rfl) (fun _ _ _ h => h) (Or.inl ⟨by rfl, ?_⟩) (by assumption) ?_
  rotate_left
  · intro w hSw; (try dsimp only at hSw); go_simp; (try with_reducible rfl)
  (try simp only [List.getElem_toArray, List.getElem_cons_succ, List.getElem_cons_zero, Act.put, List.setIfInBounds_toArray, List.set_cons_zero, List.set_cons_succ])
  refine wpAnyH_take (i := 12) (v := ?_) rfl (by kernel_rfl) (by kernel_rfl) (by kernel_rfl) (fun _ _ _ h => h) (Or.inl ⟨by rfl, ?_⟩) (by assumption) ?_
  rotate_left
  · intro w hSw; (try dsimp only at hSw); go_simp; (try with_reducible rfl)
  (try simp only [List.getElem_toArray, List.getElem_cons_succ, List.getElem_cons_zero, Act.put, List.setIfInBounds_toArray, List.set_cons_zero, List.set_cons_succ])
  refine wpAnyH_take (i := 13) (v := ?_) rfl (by kernel_rfl) (by kernel_rfl) (by kernel_rfl) (fun _ _ _ h => h) (Or.inl ⟨by rfl, ?_⟩) (by assumption) ?_
  rotate_left
  · intro w hSw; (try dsimp only at hSw); go_simp; (try with_reducible rfl)
  (try simp only [List.getElem_toArray, List.getElem_cons_succ, List.getElem_cons_zero, Act.put, List.setIfInBounds_toArray, List.set_cons_zero, List.set_cons_succ])
  refine wpAnyH_ready (rs := [14]) (by kernel_rfl) (by simp) ?_
  refine AllReadyH.cons rfl (fun K hK => ?_) ?_
  rotate_left
  · exact AllReadyH.nil
  go_simp
  go_at_call 24
  refine (sameSpots_ok _ a3 (some ⟨gw, ow, none⟩) c3 cw k3 k3 (allOf n ⟨#[]⟩) (Hsp.out.below (on_drew (Below.refl _ _))) (Hwant.out.below (on_drew (Below.refl _ _))) hML (Nat.le_refl _) hM6 Hwf.out).mono ?_
  rintro e wn1 ⟨rfl, hun⟩
  have Hk1 := Lib.hid (below_on (on_drew (Below.refl _ w2)) (hun.toBelow (fun _ h => h.elim) (Nat.le_refl _)))
  clear hun
  (try go_wp2_with fail)
  refine hK.out _ _ ?_ (fun hHeld => ?_)
  · (try dsimp only); (first | exact HS.out _ Hk1.out | exact HS.out _ (on_drew (Below.refl _ _)) | exact HS.out _ (Below.refl _ _))
  clear hK K
  (try simp only [List.getElem_toArray, List.getElem_cons_succ, List.getElem_cons_zero, Act.put, List.setIfInBounds_toArray, List.set_cons_zero, List.set_cons_succ])
  refine wpAnyH_take (i := 15) (v := ?_) rfl (by kernel_rfl) (by kernel_rfl) (by kernel_rfl) (fun _ _ _ h => h) (Or.inl ⟨by rfl, ?_⟩) (by assumption) ?_
  rotate_left
  · intro w hSw; (try dsimp only at hSw); go_simp; (try with_reducible rfl)
  (try simp only [List.getElem_toArray, List.getElem_cons_succ, List.getElem_cons_zero, Act.put, List.setIfInBounds_toArray, List.set_cons_zero, List.set_cons_succ])
  refine wpAnyH_take (i := 16) (v := ?_) rfl (by kernel_rfl) (by kernel_rfl) (by kernel_rfl) (fun _ _ _ h => h) (Or.inl ⟨by rfl, ?_⟩) (by assumption) ?_
  rotate_left
  · intro w hSw; (try dsimp only at hSw); go_simp; (try with_reducible rfl)
  (try simp only [List.getElem_toArray, List.getElem_cons_succ, List.getElem_cons_zero, Act.put, List.setIfInBounds_toArray, List.set_cons_zero, List.set_cons_succ])
  refine wpAnyH_take (i := 17) (v := ?_) rfl (by kernel_rfl) (by kernel_rfl) (by kernel_rfl) (fun _ _ _ h => h) (Or.inl ⟨by rfl, ?_⟩) (by assumption) ?_
  rotate_left
  · intro w hSw; (try dsimp only at hSw); go_simp; (try with_reducible rfl)
  (try simp only [List.getElem_toArray, List.getElem_cons_succ, List.getElem_cons_zero, Act.put, List.setIfInBounds_toArray, List.set_cons_zero, List.set_cons_succ])
  refine wpAnyH_take (i := 18) (v := ?_) rfl (by kernel_rfl) (by kernel_rfl) (by kernel_rfl) (fun _ _ _ h => h) (Or.inl ⟨by rfl, ?_⟩) (by assumption) ?_
  rotate_left
  · intro w hSw; (try dsimp only at hSw); go_simp; (try with_reducible rfl)
  (try simp only [List.getElem_toArray, List.getElem_cons_succ, List.getElem_cons_zero, Act.put, List.setIfInBounds_toArray, List.set_cons_zero, List.set_cons_succ])
  refine wpAnyH_take (i := 19) (v := ?_) rfl (by kernel_rfl) (by kernel_rfl) (by kernel_rfl) (fun _ _ _ h => h) (Or.inl ⟨by rfl, ?_⟩) (by assumption) ?_
  rotate_left
  · intro w hSw; (try dsimp only at hSw); go_simp; (try with_reducible rfl)
  (try simp only [List.getElem_toArray, List.getElem_cons_succ, List.getElem_cons_zero, Act.put, List.setIfInBounds_toArray, List.set_cons_zero, List.set_cons_succ])
  refine wpAnyH_take (i := 20) (v := ?_) rfl (by kernel_rfl) (by kernel_rfl) (by kernel_rfl) (fun _ _ _ h => h) (Or.inl ⟨by rfl, ?_⟩) (by assumption) ?_
  rotate_left
  · intro w hSw; (try dsimp only at hSw); go_simp; (try with_reducible rfl)
  (try simp only [List.getElem_toArray, List.getElem_cons_succ, List.getElem_cons_zero, Act.put, List.setIfInBounds_toArray, List.set_cons_zero, List.set_cons_succ])
  refine wpAnyH_take (i := 21) (v := ?_) rfl (by kernel_rfl) (by kernel_rfl) (by kernel_rfl) (fun _ _ _ h => h) (Or.inl ⟨by rfl, ?_⟩) (by assumption) ?_
  rotate_left
  · intro w hSw; (try dsimp only at hSw); go_simp; (try with_reducible rfl)
  (try simp only [List.getElem_toArray, List.getElem_cons_succ, List.getElem_cons_zero, Act.put, List.setIfInBounds_toArray, List.set_cons_zero, List.set_cons_succ])
  refine wpAnyH_take (i := 22) (v := ?_) rfl (by kernel_rfl) (by kernel_rfl) (by kernel_rfl) (fun _ _ _ h => h) (Or.inl ⟨by rfl, ?_⟩) (by assumption) ?_
  rotate_left
  · intro w hSw; (try dsimp only at hSw); go_simp; (try with_reducible rfl)
  (try simp only [List.getElem_toArray, List.getElem_cons_succ, List.getElem_cons_zero, Act.put, List.setIfInBounds_toArray, List.set_cons_zero, List.set_cons_succ])
  refine wpAnyH_take (i := 23) (v := ?_) rfl (by kernel_rfl) (by kernel_rfl) (by kernel_rfl) (fun _ _ _ h => h) (Or.inl ⟨by rfl, ?_⟩) (by assumption) ?_
  rotate_left
  · intro w hSw; (try dsimp only at hSw); go_simp; (try with_reducible rfl)
  (try simp only [List.getElem_toArray, List.getElem_cons_succ, List.getElem_cons_zero, Act.put, List.setIfInBounds_toArray, List.set_cons_zero, List.set_cons_succ])
  refine wpAnyH_take (i := 24) (v := ?_) rfl (by kernel_rfl) (by kernel_rfl) (by kernel_rfl) (fun _ _ _ h => h) (Or.inl ⟨by rfl, ?_⟩) (by assumption) ?_
  rotate_left
  · intro w hSw; (try dsimp only at hSw); go_simp; (try with_reducible rfl)
  (try simp only [List.getElem_toArray, List.getElem_cons_succ, List.getElem_cons_zero, Act.put, List.setIfInBounds_toArray, List.set_cons_zero, List.set_cons_succ])
  refine wpAnyH_take (i := 25) (v := ?_) rfl (by kernel_rfl) (by kernel_rfl) (by kernel_rfl) (fun _ _ _ h => h) (Or.inl ⟨by rfl, ?_⟩) (by assumption) ?_
  rotate_left
  · intro w hSw; (try dsimp only at hSw); go_simp; (try with_reducible rfl)
  (try simp only [List.getElem_toArray, List.getElem_cons_succ, List.getElem_cons_zero, Act.put, List.setIfInBounds_toArray, List.set_cons_zero, List.set_cons_succ])
  refine wpAnyH_take (i := 26) (v := ?_) rfl (by kernel_rfl) (by kernel_rfl) (by kernel_rfl) (fun _ _ _ h => h) (Or.inl ⟨by rfl, ?_⟩) (by assumption) ?_
  rotate_left
  · intro w hSw; (try dsimp only at hSw); go_simp; (try with_reducible rfl)
  (try simp only [List.getElem_toArray, List.getElem_cons_succ, List.getElem_cons_zero, Act.put, List.setIfInBounds_toArray, List.set_cons_zero, List.set_cons_succ])
  refine wpAnyH_take (i := 27) (v := ?_) rfl (by kernel_rfl) (by kernel_rfl) (by kernel_rfl) (fun _ _ _ h => h) (Or.inl ⟨by rfl, ?_⟩) (by assumption) ?_
  rotate_left
  · intro w hSw; (try dsimp only at hSw); go_simp; (try with_reducible rfl)
  (try simp only [List.getElem_toArray, List.getElem_cons_succ, List.getElem_cons_zero, Act.put, List.setIfInBounds_toArray, List.set_cons_zero, List.set_cons_succ])
  refine wpAnyH_take (i := 28) (v := ?_) rfl (by kernel_rfl) (by kernel_rfl) (by kernel_rfl) (fun _ _ _ h => h) (Or.inl ⟨by rfl, ?_⟩) (by assumption) ?_
  rotate_left
  · intro w hSw; (try dsimp only at hSw); go_simp; (try with_reducible rfl)
  (try simp only [List.getElem_toArray, List.getElem_cons_succ, List.getElem_cons_zero, Act.put, List.setIfInBounds_toArray, List.set_cons_zero, List.set_cons_succ])
  refine wpAnyH_take (i := 29) (v := ?_) rfl (by kernel_rfl) (by kernel_rfl) (by kernel_rfl) (fun _ _ _ h => h) (Or.inl ⟨by rfl, ?_⟩) (by assumption) ?_
  rotate_left
  · intro w hSw; (try dsimp only at hSw); go_simp; (try with_reducible rfl)
  (try simp only [List.getElem_toArray, List.getElem_cons_succ, List.getElem_cons_zero, Act.put, List.setIfInBounds_toArray, List.set_cons_zero, List.set_cons_succ])
  refine wpAnyH_take (i := 30) (v := ?_) rfl (by kernel_rfl) (by kernel_rfl) (by kernel_rfl) (fun _ _ _ h => h) (Or.inl ⟨by rfl, ?_⟩) (by assumption) ?_
  rotate_left
  · intro w hSw; (try dsimp only at hSw); go_simp; (try with_reducible rfl)
  (try simp only [List.getElem_toArray, List.getElem_cons_succ, List.getElem_cons_zero, Act.put, List.setIfInBounds_toArray, List.set_cons_zero, List.set_cons_succ])
  refine wpAnyH_take (i := 31) (v := ?_) rfl (by kernel_rfl) (by kernel_rfl) (by kernel_rfl) (fun _ _ _ h => h) (Or.inl ⟨by rfl, ?_⟩) (by assumption) ?_
  rotate_left
  · intro w hSw; (try dsimp only at hSw); go_simp; (try with_reducible rfl)
  (try simp only [List.getElem_toArray, List.getElem_cons_succ, List.getElem_cons_zero, Act.put, List.setIfInBounds_toArray, List.set_cons_zero, List.set_cons_succ])
  refine wpAnyH_take (i := 32) (v := ?_) rfl (by kernel_rfl) (by kernel_rfl) (by kernel_rfl) (fun _ _ _ h => h) (Or.inl ⟨by rfl, ?_⟩) (by assumption) ?_
  rotate_left
  · intro w hSw; (try dsimp only at hSw); go_simp; (try with_reducible rfl)
  (try simp only [List.getElem_toArray, List.getElem_cons_succ, List.getElem_cons_zero, Act.put, List.setIfInBounds_toArray, List.set_cons_zero, List.set_cons_succ])
  refine wpAnyH_take (i := 33) (v := ?_) rfl (by kernel_rfl) (by kernel_rfl) (by kernel_rfl) (fun _ _ _ h => h) (Or.inl ⟨by rfl, ?_⟩) (by assumption) ?_
  rotate_left
  · intro w hSw; (try dsimp only at hSw); go_simp; (try with_reducible rfl)
  (try simp only [List.getElem_toArray, List.getElem_cons_succ, List.getElem_cons_zero, Act.put, List.setIfInBounds_toArray, List.set_cons_zero, List.set_cons_succ])
  refine wpAnyH_take (i := 34) (v := ?_) rfl (by kernel_rfl) (by kernel_rfl) (by kernel_rfl) (fun _ _ _ h => h) (Or.inl ⟨by rfl, ?_⟩) (by assumption) ?_
  rotate_left
  · intro w hSw; (try dsimp only at hSw); go_simp; (try with_reducible rfl)
  (try simp only [List.getElem_toArray, List.getElem_cons_succ, List.getElem_cons_zero, Act.put, List.setIfInBounds_toArray, List.set_cons_zero, List.set_cons_succ])
  refine wpAnyH_take (i := 35) (v := ?_) rfl (by kernel_rfl) (by kernel_rfl) (by kernel_rfl) (fun _ _ _ h => h) (Or.inl ⟨by rfl, ?_⟩) (by assumption) ?_
  rotate_left
  · intro w hSw; (try dsimp only at hSw); go_simp; (try with_reducible rfl)
  (try simp only [List.getElem_toArray, List.getElem_cons_succ, List.getElem_cons_zero, Act.put, List.setIfInBounds_toArray, List.set_cons_zero, List.set_cons_succ])
  refine' wpAnyH_take (i := 36) (v := _) rfl (by kernel_rfl) (by kernel_rfl) (by kernel_rfl) (fun _ _ _ h => h) (yieldsIf_load_mid (by rfl) _ _ rfl _ _ rfl _ _ ?hS36 ?hu36 ?hd36 ?hi36) (by assumption) ?rest1
  case hS36 => (intro w hSw; (try dsimp only at hSw); go_split_ands; assumption)
  case hu36 => assumption
  case hd36 => rfl
  case hi36 => first | assumption | (simp only [*]; done)
  (try simp only [List.getElem_toArray, List.getElem_cons_succ, List.getElem_cons_zero, Act.put, List.setIfInBounds_toArray, List.set_cons_zero, List.set_cons_succ])
  refine' wpAnyH_take (i := 37) (v := _) rfl (by kernel_rfl) (by kernel_rfl) (by kernel_rfl) (fun _ _ _ h => h) (yieldsIf_load_mid (by rfl) _ _ rfl _ _ rfl _ _ ?hS37 ?hu37 ?hd37 ?hi37) (by assumption) ?rest2
  case hS37 => (intro w hSw; (try dsimp only at hSw); go_split_ands; assumption)
  case hu37 => assumption
  case hd37 => rfl
  case hi37 => first | assumption | (simp only [*]; done)
  (try simp only [List.getElem_toArray, List.getElem_cons_succ, List.getElem_cons_zero, Act.put, List.setIfInBounds_toArray, List.set_cons_zero, List.set_cons_succ])
  refine wpAnyH_take (i := 38) (v := ?_) rfl (by kernel_rfl) (by kernel_rfl) (by kernel_rfl) (fun _ _ _ h => h) (Or.inl ⟨by rfl, ?_⟩) (by assumption) ?_
  rotate_left
  · intro w hSw; (try dsimp only at hSw); go_simp; (try with_reducible rfl)
  (try simp only [List.getElem_toArray, List.getElem_cons_succ, List.getElem_cons_zero, Act.put, List.setIfInBounds_toArray, List.set_cons_zero, List.set_cons_succ])
  refine wpAnyH_take (i := 39) (v := ?_) rfl (by kernel_rfl) (by kernel_rfl) (by kernel_rfl) (fun _ _ _ h => h) (Or.inl ⟨by rfl, ?_⟩) (by assumption) ?_
  rotate_left
  · intro w hSw; (try dsimp only at hSw); go_simp; (try with_reducible rfl)
  (try simp only [List.getElem_toArray, List.getElem_cons_succ, List.getElem_cons_zero, Act.put, List.setIfInBounds_toArray, List.set_cons_zero, List.set_cons_succ])
  refine wpAnyH_ready (rs := [40]) (by kernel_rfl) (by simp) ?_
  refine AllReadyH.cons rfl (fun K hK => ?_) ?_
  rotate_left
  · exact AllReadyH.nil
  obtain ⟨e1, e2, _⟩ := HS.out _ Hk1.out
  go_simp
  have hu9 : Upd (fun b => b = bok) wn1 (wn1.setCell ⟨bok, 0, none⟩ (.bool true)) := (Upd.refl _ _).setCell _ _ (fun _ => rfl)
  have hset := heap_setCell_same wn1 bok 0 _ _ (.bool true) ((Hk1.out.block bok (by have := Hw2.out.size; omega)).trans HS0.out.1)
  simp at hset
  refine hK.out _ _ ?_ (fun hHeld => ?_)
  · obtain ⟨q1, q2, q3, q4, q5, q6, q7⟩ := HS.out _ Hk1.out
    exact ⟨cell1 hset, frozen_of_row _ _ _ _ _ hset, hu9.cell q3 hb11, hu9.cell q4 hbb, hu9.cell q5 hgB, rangeAt_kept q6 hu9 hgB, rangeAt_kept q7 hu9 hB7b⟩
  clear hK K
  (try simp only [List.getElem_toArray, List.getElem_cons_succ, List.getElem_cons_zero, Act.put, List.setIfInBounds_toArray, List.set_cons_zero, List.set_cons_succ])
  refine wpAnyH_done (by kernel_rfl) ?_ _
  refine NoPanic.normal ?_
  have hi9 := hu9.at_ ((Hk1.out.block bi (by have := Hw2.out.size; omega)).trans HS0.out.2.1) hbb
  have Hu9 := Lib.hid (show Upd (fun b => B0 ≤ b) W (wn1.setCell ⟨bok, 0, none⟩ (.bool true)) from (Upd.below (below_on Hw2.out Hk1.out) _).then hu9 (fun k _ hk => by show B0 ≤ k; omega))
  generalize wn1.setCell ⟨bok, 0, none⟩ (.bool true) = w9 at hset hi9 hHeld Hu9 ⊢
  have f0 := cell1 hi9
  have z0 := frozen_of_row _ bi 0 _ _ hi9
  have hu10 : Upd (fun b => b = bi) w9 (w9.setCell ⟨bi, 0, none⟩ (.int .i64 ((i : Int) + 1))) := (Upd.refl _ _).setCell _ _ (fun _ => rfl)
  have hset2 := heap_setCell_same w9 bi 0 _ _ (.int .i64 ((i : Int) + 1)) hi9
  simp at hset2
  have hok2 := hu10.at_ hset (fun e => hbb e.symm)
  have f1 := cell1 hok2
  have ew : IntKind.i64.wrap ((i : Int) + 1) = (i : Int) + 1 := IntWalk.i64_in _ (by omega)
  have Hset2 := Lib.hid hset2
  have Hok2 := Lib.hid hok2
  have Hu10 := Lib.hid (Hu9.out.then hu10 (fun k _ hk => by show B0 ≤ k; omega))
  clear hset2 hok2 hu10 hset hi9 hHeld
  go_wp2
  go_ret
  exact ⟨rfl, Hok2.out, by rw [show ((i + 1 : Nat) : Int) = (i : Int) + 1 by omega]; exact Hset2.out, Hu10.out⟩
end Go.Proofs.Ythnbinlllmkabaa
