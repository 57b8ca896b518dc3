/- elsewhere, walked. -/
import Derived.Test.YthnbinlllmkabaaElse
import Derived.Test.YthnbinlllmkabaaSpots2
namespace Go.Proofs.Ythnbinlllmkabaa
open Go.RowKit Go.Shelf
set_option linter.unusedVariables false
set_option linter.unusedSimpArgs false

theorem eql_all (w : World) (f : Fn) (x y : Array Value) : (binOp .eql 67 (.func f x y) .nilFunc).run Try.prog w = .ok (.bool false) w := by kernel_rfl
set_option maxHeartbeats 4000000 in
set_option maxRecDepth 100000 in
theorem elsewhere_any (F G : Nat → Prop) (d e : Nat) (w : World) (p q : Nat) (n u : Nd) (s : ByteArray) (ht : TreeAt w F d p n) (hu : TreeAt w G e q u) (hpt : n.parts ≤ 1000000) (hr : u.ris) (hc : u.cnt ≤ 1000000000) (hs : s.size ≤ 1000000000)
    (hlaw : ∀ x ∈ allOf n ⟨#[]⟩, underB x.1 s = true ∨ ∃ k, subAt u x.1 = some k ∧ k.v = x.2.1) :
    Calls Try.prog 53 #[.pointer (some ⟨p, 0, none⟩), .pointer (some ⟨q, 0, none⟩), .string s] w fun e' w' => e' = .returned (.bool true) ∧ Below w.heap.size w w' := by
  have Ht := Lib.hid ht
  have Hu := Lib.hid hu
  have Hpt := Lib.hid hpt
  have Hr := Lib.hid (And.intro hr hlaw)
  have hA := alloc3 w (.cells #[.pointer (some ⟨q, 0, none⟩)] 55) (.cells #[.string s] 9) (.cells #[.bool true] 4)
  have hb4 := on_alloc (on_alloc (on_alloc (Below.refl _ w) (.cells #[.pointer (some ⟨q, 0, none⟩)] 55)) (.cells #[.string s] 9)) (.cells #[.bool true] 4)
  clear ht hu hpt hr hlaw
  go_enter Try.func53, Try.ntmps53
  go_wp2_with fail
  have hs3 : (((w.alloc (.cells #[.pointer (some ⟨q, 0, none⟩)] 55)).alloc (.cells #[.string s] 9)).alloc (.cells #[.bool true] 4)).heap.size = w.heap.size + 3 := by simp
  obtain ⟨h4, h5, h7⟩ := hA
  generalize (((w.alloc (.cells #[.pointer (some ⟨q, 0, none⟩)] 55)).alloc (.cells #[.string s] 9)).alloc (.cells #[.bool true] 4)) = w3 at h4 h5 h7 hb4 hs3 ⊢
  have f4 := cell_of_row w3 _ 0 _ _ _ h4
  have f5 := cell_of_row w3 _ 0 _ _ _ h5
  have f7 := cell_of_row w3 _ 0 _ _ _ h7
  have z7 := frozen_of_row w3 _ 0 _ _ h7
  simp at f4 f5 f7
  have hw3 : Wells w3 w3.heap.size w.heap.size (w.heap.size + 1) (w.heap.size + 1 + 1) q u s e :=
    ⟨f4, f5, f7, z7, TreeAt.mono (fun b _ hb => hb) _ _ _ Hu.out |>.below hb4, by omega⟩
  have HW3 := Lib.hid hw3
  have Hb4 := Lib.hid hb4
  have Hs3 := Lib.hid hs3
  clear hw3 hb4 hs3 h4 h5 h7 f4 f5 f7 z7
  refine (all_any w3 p).mono ?_
  rintro e1 w4 ⟨rfl, hw4⟩
  have hb34 : Below w3.heap.size w3 w4 := by rw [hw4]; exact on_alloc (Below.refl _ _) _
  have hcell : w4.cell? ⟨w3.heap.size, 0, none⟩ = some (.pointer (some ⟨p, 0, none⟩)) := by rw [hw4, cell_of_row _ _ 0 _ _ _ (heap_alloc_new w3 _)]; rfl
  have hs4 : w4.heap.size = w3.heap.size + 1 := by rw [hw4]; simp
  obtain ⟨N, hN⟩ : ∃ N, N = w4.heap.size := ⟨_, rfl⟩
  obtain ⟨B7, hB7⟩ : ∃ B, B = w.heap.size + 1 + 1 := ⟨_, rfl⟩
  have hW4' := HW3.out.next hb34
  have hW4 : Wells w4 N w.heap.size (w.heap.size + 1) B7 q u s e := by
    obtain ⟨a1, a2, a3, a4, a5, a6, a7, a8, a9⟩ := hW4'
    rw [hB7]
    exact ⟨a1, a2, a3, a4, a5, a6, a7, by omega, by omega⟩
  have hHs := Hs3.out
  have hY : Yields 98 #[.pointer (some ⟨w.heap.size, 0, none⟩), .pointer (some ⟨w.heap.size + 1, 0, none⟩), .pointer (some ⟨B7, 0, none⟩)] (allOf n ⟨#[]⟩) (fun b => b = B7 ∨ N ≤ b)
      (fun i W => Wells W N w.heap.size (w.heap.size + 1) B7 q u s e) (fun _ => False) := by
    intro i x W hx hJ
    have hmem := List.mem_of_getElem? hx
    have hsz := allOf_size n ⟨#[]⟩ x hmem
    have hpp := Hpt.out
    have hpe := parts_eq n
    have e0 : (⟨#[]⟩ : ByteArray).size = 0 := rfl
    refine (else1_any W N w.heap.size (w.heap.size + 1) B7 q e u s x.1 x.2.1 hJ Hr.out.1 hc (by omega) hs (treeAt_wf d p n Ht.out ⟨#[]⟩ x hmem) (Hr.out.2 x hmem)).mono ?_
    rintro e' W' ⟨rfl, h1, h2⟩
    exact .inl ⟨rfl, h1, h2⟩
  have hcall := all1_ok (fun b => b < w.heap.size) d w4 w3.heap.size p n 98 _ _ _ _ (enters_of Try.func98 (by kernel_rfl) rfl) hY ((TreeAt.mono (fun b _ hb => hb) _ _ _ Ht.out |>.below Hb4.out).below hb34) (fun b hb => by have h1 := Hs3.out; omega) Hpt.out hcell hW4
  have Hcall := Lib.hid hcall
  have Hb34 := Lib.hid (below_on Hb4.out hb34)
  have HB := Lib.hid (And.intro hB7 (And.intro hN hs4))
  rw [hB7] at Hcall
  have HBs := Lib.hid hHs
  have hea : ∀ w, (binOp .eql 67 (.func (.func 79) #[] #[.pointer (some ⟨w3.heap.size, 0, none⟩)]) .nilFunc).run Try.prog w = .ok (.bool false) w := fun w => eql_all w _ _ _
  clear hcall hY hW4 hW4' hcell hb34 hw4 hB7 hN hs4 hHs
  go_wp2_with fail
  refine Hcall.out.mono ?_
  rintro e w5 ⟨⟨v, rfl⟩, hj, hu5⟩
  have hj' : Wells w5 N w.heap.size (w.heap.size + 1) (w.heap.size + 1 + 1) q u s e := by
    rcases hj with hj | hj
    · exact hj
    · exact hj.elim
  have c7 := hj'.c7
  have hb5 := Hb34.out.upd (Nat.le_refl _) hu5 (fun b hb => by have := HB.out.2; have := HBs.out; omega)
  have Hb5 := Lib.hid hb5
  clear hj hj' hu5 hb5
  go_wp2
  go_ret
  exact ⟨rfl, Hb5.out⟩
end Go.Proofs.Ythnbinlllmkabaa
