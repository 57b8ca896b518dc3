/- elsewhere: has another tree what this one has, but for a path and what lies below it? -/
import Derived.Test.YthnbinlllmkabaaPutW
namespace Go.Proofs.Ythnbinlllmkabaa
open Go.RowKit Go.Shelf
set_option linter.unusedVariables false
set_option linter.unusedSimpArgs false

theorem TreeAt.vwf {F : Nat → Prop} {w : World} {d p : Nat} {n : Nd} (h : TreeAt w F d p n) : n.v.wf := by
  cases d with
  | zero => exact h.elim
  | succ d => exact h.2.1
theorem TreeAt.kid_in {F : Nat → Prop} {w : World} {d p : Nat} {n k : Nd} (h : TreeAt w F (d + 1) p n) (hk : k ∈ n.kids) : ∃ q, TreeAt w F d q k := by
  obtain ⟨_, _, _, an, ak, cn, ck, ps, _, _, _, _, _, hpl, _, _, hkids⟩ := h
  obtain ⟨i, hi, rfl⟩ := List.mem_iff_getElem.1 hk
  have hip : i < ps.length := by rw [hpl]; exact hi
  exact ⟨ps[i], (hkids i _ _ (List.getElem?_eq_getElem hip) (List.getElem?_eq_getElem hi)).2⟩
theorem TreeAt.sub_wf {F : Nat → Prop} {w : World} : ∀ (l : List ByteArray) (d p : Nat) (n k : Nd), TreeAt w F d p n → subOf n l = some k → k.v.wf
  | [], d, p, n, k, h, hs => by injection hs with hs; subst hs; exact h.vwf
  | t :: l, 0, p, n, k, h, hs => h.elim
  | t :: l, d + 1, p, n, k, h, hs => by
    rw [subOf_cons] at hs
    cases hk : kidOf n.kids t with
    | none => rw [hk] at hs; cases hs
    | some c =>
      rw [hk, Option.bind_some] at hs
      obtain ⟨q, hq⟩ := h.kid_in (List.mem_of_getElem? (kidOf_some hk).1)
      exact TreeAt.sub_wf l d q c k hq hs
/-- What stands at a path, or nothing. -/
def valAt (u : Nd) (s : ByteArray) : Vl := ((subAt u s).map Nd.v).getD noVl
theorem valAt_wf {F : Nat → Prop} {w : World} {d p : Nat} {u : Nd} (h : TreeAt w F d p u) (s : ByteArray) : (valAt u s).wf := by
  unfold valAt
  cases hs : subAt u s with
  | none => exact noVl_wf
  | some k =>
    unfold subAt at hs
    split at hs
    · exact TreeAt.sub_wf _ _ _ _ _ h hs
    · cases hs
/-- What the closure finds. -/
structure Wells (W : World) (N B4 B5 B7 q : Nat) (u : Nd) (s : ByteArray) (e : Nat) : Prop where
  c4 : W.cell? ⟨B4, 0, none⟩ = some (.pointer (some ⟨q, 0, none⟩))
  c5 : W.cell? ⟨B5, 0, none⟩ = some (.string s)
  c7 : W.cell? ⟨B7, 0, none⟩ = some (.bool true)
  f7 : W.frozen? ⟨B7, 0, none⟩ = false
  tree : TreeAt W (fun b => b < B4) e q u
  low : B4 < B5 ∧ B5 < B7 ∧ B7 < N ∧ N ≤ W.heap.size
theorem Wells.next {W W' : World} {N B4 B5 B7 q e : Nat} {u : Nd} {s : ByteArray} (h : Wells W N B4 B5 B7 q u s e) (hb : Below W.heap.size W W') : Wells W' N B4 B5 B7 q u s e := by
  obtain ⟨h1, h2, h3, h4, h5, h6, h7, h8, h9⟩ := h
  have hz := hb.size
  refine ⟨(hb.cell (p := ⟨B4, 0, none⟩) (by show B4 < _; omega)).trans h1, (hb.cell (p := ⟨B5, 0, none⟩) (by show B5 < _; omega)).trans h2, (hb.cell (p := ⟨B7, 0, none⟩) (by show B7 < _; omega)).trans h3, ?_, h5.below hb, h6, h7, h8, by omega⟩
  have := hb.block B7 (by omega)
  unfold World.frozen? at h4 ⊢
  simp only [this]
  exact h4
theorem frozen_setCell (W : World) (a : Addr) (v : Value) (b : Addr) : (W.setCell a v).frozen? b = W.frozen? b := by simp
set_option maxHeartbeats 4000000 in
set_option maxRecDepth 100000 in
theorem else1_any (W : World) (N B4 B5 B7 q e : Nat) (u : Nd) (s t : ByteArray) (v : Vl) (hW : Wells W N B4 B5 B7 q u s e) (hr : u.ris) (hc : u.cnt ≤ 1000000000) (ht : t.size ≤ 1000000000) (hs : s.size ≤ 1000000000) (hv : v.wf)
    (hlaw : underB t s = true ∨ ∃ k, subAt u t = some k ∧ k.v = v) :
    Calls Try.prog 98 #[.string t, .agg v.cells.toArray, .pointer (some ⟨B4, 0, none⟩), .pointer (some ⟨B5, 0, none⟩), .pointer (some ⟨B7, 0, none⟩)] W fun e' W' => e' = .returned (.bool true) ∧ Wells W' N B4 B5 B7 q u s e ∧ Upd (fun b => b = B7 ∨ N ≤ b) W W' := by
  have hlow := hW.low
  obtain ⟨V1, hV1⟩ : ∃ V1, V1 = v.cells.toArray := ⟨_, rfl⟩
  obtain ⟨V2, hV2⟩ : ∃ V2, V2 = (valAt u t).cells.toArray := ⟨_, rfl⟩
  have hwf2 := valAt_wf hW.tree t
  have V1s := Lib.hid (show V1.size = 35 by rw [hV1, List.size_toArray]; exact v.cells_length hv)
  have V2s := Lib.hid (show V2.size = 35 by rw [hV2, List.size_toArray]; exact (valAt u t).cells_length hwf2)
  have V1o := Lib.hid (show V1.all (·.oneCell') = true by rw [hV1]; exact all_one v.cells_one)
  have V2o := Lib.hid (show V2.all (·.oneCell') = true by rw [hV2]; exact all_one (valAt u t).cells_one)
  have V1l := Lib.hid (show v.cells.length = 35 from v.cells_length hv)
  have V2l := Lib.hid (show (valAt u t).cells.length = 35 from (valAt u t).cells_length hwf2)
  rw [← hV1]
  obtain ⟨w1, hw1⟩ : ∃ w1, w1 = W.alloc (.cells V1 24) := ⟨_, rfl⟩
  have hb1 : Below W.heap.size W w1 := by rw [hw1]; exact on_alloc (Below.refl _ _) _
  have hr1 : w1.heap[W.heap.size]? = some (.cells V1 24 (0, 0)) := by rw [hw1]; exact heap_alloc_new _ _
  have hW1 := hW.next hb1
  have hat := at_any _ e w1 q u t hW1.tree hr hc ht
  rw [show (((subAt u t).map Nd.v).getD noVl).cells.toArray = V2 from hV2.symm] at hat
  obtain ⟨ok, hok⟩ : ∃ ok, ok = (subAt u t).isSome := ⟨_, rfl⟩
  rw [← hok] at hat
  have Hat := Lib.hid hat
  have c4 := hW1.c4
  have HW := Lib.hid hW
  have HW1 := Lib.hid hW1
  have Hb1 := Lib.hid hb1
  have Hr1 := Lib.hid hr1
  have HV1 := Lib.hid hV1
  have HV2 := Lib.hid hV2
  have Hok := Lib.hid hok
  have Hlaw := Lib.hid hlaw
  have Hvv := Lib.hid (And.intro hv hwf2)
  have hsz1 : W.heap.size < w1.heap.size := lt_heap hr1
  clear hW hW1 hat hb1 hr1 hV1 hV2 hok hlaw hwf2 hv hr
  go_enter Try.func98, Try.ntmps98
  rw [hw1] at c4
  go_wp2_with fail
  rw [← hw1] at c4 ⊢
  clear hw1
  refine Hat.out.mono ?_
  rintro e2 w2 ⟨rfl, hb2⟩
  have HW2 := Lib.hid (HW1.out.next hb2)
  have Hb2 := Lib.hid (below_on Hb1.out hb2)
  have Hr2 := Lib.hid ((hb2.block _ hsz1).trans Hr1.out)
  have hsz2 : w1.heap.size ≤ w2.heap.size := hb2.size
  clear hb2 Hat c4
  go_wp2_with (refine wpList_store_fresh rfl 24 _ _ rfl V2 rfl rfl (by rw [V2s.out]; kernel_rfl) (by rw [V2s.out]; rfl) V2o.out ?_)
  intro w3 hs3 hr3 hb3
  have HW3 := Lib.hid (HW2.out.next hb3)
  have Hb3 := Lib.hid (below_on Hb2.out hb3)
  have Hr3 := Lib.hid ((hb3.block _ (Nat.lt_of_lt_of_le hsz1 hsz2)).trans Hr2.out)
  have Hq3 := Lib.hid hr3
  have c5 := HW3.out.c5
  have hund := under_any w3 t s ht hs
  obtain ⟨ub, hub⟩ : ∃ ub, ub = underB t s := ⟨_, rfl⟩
  rw [← hub] at hund
  have Hund := Lib.hid hund
  have Hub := Lib.hid hub
  have hsz3 : w2.heap.size < w3.heap.size := by omega
  clear hr3 hb3 hund hub
  go_wp2_with fail
  refine Hund.out.mono ?_
  rintro e4 w4 ⟨rfl, hb4⟩
  have HW4 := Lib.hid (HW3.out.next hb4)
  have Hb4 := Lib.hid (below_on Hb3.out hb4)
  have Hr4 := Lib.hid ((hb4.block _ (by omega)).trans Hr3.out)
  have Hq4 := Lib.hid ((hb4.block _ hsz3).trans Hq3.out)
  have f7 := HW4.out.f7
  have c7 := HW4.out.c7
  clear hb4 Hund c5
  have hfin : ∀ w5, w5 = w4.setCell ⟨B7, 0, none⟩ (.bool true) → Wells w5 N B4 B5 B7 q u s e ∧ Upd (fun b => b = B7 ∨ N ≤ b) W w5 := fun w5 hw5 => by
    have hu5 : Upd (fun b => b = B7) w4 w5 := by rw [hw5]; exact (Upd.refl _ _).setCell _ _ (fun _ => rfl)
    refine ⟨⟨hu5.cell HW4.out.c4 (by show ¬ B4 = B7; omega), hu5.cell HW4.out.c5 (by show ¬ B5 = B7; omega), ?_, ?_, TreeAt.kept hu5 (fun b hb h => by omega) _ _ _ HW4.out.tree, HW4.out.low.1, HW4.out.low.2.1, HW4.out.low.2.2.1, Nat.le_trans HW4.out.low.2.2.2 hu5.size⟩, ?_⟩
    · rw [hw5]; exact World.cell?_setCell_same _ _ _ HW4.out.c7
    · rw [hw5, frozen_setCell]; exact HW4.out.f7
    · refine (Upd.below Hb4.out _).then hu5 (fun b _ h => .inl h) |>.mono (fun b _ h => h)
  have Hfin := Lib.hid hfin
  clear hfin
  cases ub with
  | true =>
    go_wp2
    go_ret
    exact ⟨rfl, Hfin.out _ rfl⟩
  | false =>
    have hk : ∃ k, subAt u t = some k ∧ k.v = v := by
      rcases Hlaw.out with h | h
      · rw [← Hub.out] at h; cases h
      · exact h
    obtain ⟨k, hk1, hk2⟩ := hk
    have hokt : ok = true := by rw [Hok.out, hk1]; rfl
    have hvv : valAt u t = v := by unfold valAt; rw [hk1]; exact hk2
    have h21 : V2 = V1 := by rw [HV2.out, HV1.out, hvv]
    have heq : ∀ w, (Op.equalIn 10000 24 (.agg V2) (.agg V1)).run Try.prog w = .ok true w := fun w => by
      rw [HV2.out, HV1.out, hvv, eq_value v v Hvv.out.1.1 Hvv.out.1.1 w, decide_eq_true rfl]
    have R1 := Lib.hid (rangeAt_row (l := v.cells) (by rw [← HV1.out]; exact Hr4.out))
    have R2 := Lib.hid (rangeAt_row (l := (valAt u t).cells) (by rw [← HV2.out]; exact Hq4.out))
    have HV1' := HV1
    rw [HV1.out, HV2.out] at heq
    clear hk1 hk2 hvv h21
    subst hokt
    go_wp2_with (first | (refine wpList_load_midg (by rfl) 24 (.tmp 8) rfl w2.heap.size 0 rfl (valAt u t).cells _ R2.out Try.underlying24 rfl (by rw [V2l.out]; kernel_rfl) ?_) | (refine wpList_load_midg (by rfl) 24 (.tmp 6) rfl W.heap.size 0 rfl v.cells _ R1.out Try.underlying24 rfl (by rw [V1l.out]; kernel_rfl) ?_))
    go_ret
    exact ⟨rfl, Hfin.out _ rfl⟩
end Go.Proofs.Ythnbinlllmkabaa
