/- The law's sameNode and few. -/
import Derived.Test.YthnbinlllmkabaaEqual
import Derived.Test.YthnbinlllmkabaaCnt
namespace Go.Proofs.Ythnbinlllmkabaa
open Go.RowKit
set_option linter.unusedVariables false
set_option linter.unusedSimpArgs false

set_option maxHeartbeats 4000000 in
set_option maxRecDepth 100000 in
theorem sameNode_any (d : Nat) (F G : Nat → Prop) (w : World) (n u : Nd) (a : Option Addr) (c : Nat) (a' : Option Addr) (c' : Nat) (hn : NodeIn w F d n a) (hu : NodeIn w G d u a') :
    Calls Try.prog 15 #[.agg (n.row a c).toArray, .agg (u.row a' c').toArray] w fun e' w' => e' = .returned (.bool (decide (n.name = u.name) && n.alike u)) ∧ Below w.heap.size w w' := by
  have HT := Lib.hid (Two.made w (n.row a c) (u.row a' c'))
  have R1 := Lib.hid (rangeAt_row HT.out.1)
  have R2 := Lib.hid (rangeAt_row HT.out.2.1)
  obtain ⟨f0, v1, m1, f40⟩ := nrow_at (o := 0) hn.vwf (rangeAt_row HT.out.1)
  obtain ⟨g0, v2, m2, g40⟩ := nrow_at (o := 0) hu.vwf (rangeAt_row HT.out.2.1)
  have Hn := Lib.hid (hn.below HT.out.2.2)
  have Hu := Lib.hid (hu.below HT.out.2.2)
  have l1 := Lib.hid (row_len (a := a) (c := c) hn.vwf)
  have l2 := Lib.hid (row_len (a := a') (c := c') hu.vwf)
  clear v1 m1 f40 v2 m2 g40 hn hu
  by_cases hnm : n.name = u.name
  · rw [← hnm] at g0
    have Hnm := Lib.hid hnm
    clear hnm
    go_enter Try.func15, Try.ntmps15
    go_wp2_with (first | (refine wpList_load_midg (by rfl) 30 (.tmp 2) rfl w.heap.size 0 rfl (n.row a c) _ R1.out Try.underlying30 rfl (by rw [l1.out]; kernel_rfl) ?_) | (refine wpList_load_midg (by rfl) 30 (.tmp 3) rfl (w.heap.size + 1) 0 rfl (u.row a' c') _ R2.out Try.underlying30 rfl (by rw [l2.out]; kernel_rfl) ?_))
    refine (equal_ok d F G _ n u a c a' c' Hn.out Hu.out).mono ?_
    rintro e w5 ⟨rfl, hb5⟩
    have Hb5 := Lib.hid (below_on HT.out.2.2 hb5)
    clear hb5 f0 g0
    go_wp2_with fail
    go_ret
    exact ⟨ret_b (by rw [decide_eq_true Hnm.out, Bool.true_and]), Hb5.out⟩
  · have hb1 : (n.name.toList == u.name.toList) = false := names_ne hnm
    have hb2 : (decide (n.name = u.name) && n.alike u) = false := by rw [decide_eq_false hnm]; rfl
    clear hnm
    have Hb2 := Lib.hid hb2
    clear hb2
    go_enter Try.func15, Try.ntmps15
    go_wp2_with fail
    go_ret
    exact ⟨ret_b Hb2.out.symm, HT.out.2.2⟩
set_option maxRecDepth 100000 in
theorem few_any (F : Nat → Prop) (d : Nat) (w : World) (ks : List Nd) (m : Nat) (a : Option Addr) (c : Nat) (hk : KidsIn w F d a ks) (hF : ∀ b, F b → b < w.heap.size) (hm : ks.length = m) (hm2 : m ≤ 9223372036854775807) :
    Calls Try.prog 9 #[.slice a m c] w fun e w' => ∃ b : Bool, e = .returned (.bool b) ∧ (b = true → partsAll ks ≤ 20000) ∧ Below w.heap.size w w' := by
  have Hk := Lib.hid hk
  have Hm := Lib.hid (And.intro hm hm2)
  clear hk hm hm2
  go_enter Try.func9, Try.ntmps9
  go_wp2_with fail
  refine (many_any w 20000).mono ?_
  rintro e w2 ⟨rfl, hc, hb⟩
  have Hc := Lib.hid hc
  have Hb := Lib.hid hb
  clear hc hb
  go_wp2_with fail
  refine (countNodes_ok (F := fun b => b < w.heap.size) (p := w.heap.size) (by simp) d w2 20000 ks m a c Hc.out (by omega) ((Hk.out.below Hb.out).mono (fun b hb _ => hF b hb)) Hm.out.1 Hm.out.2).mono ?_
  rintro e w3 ⟨rfl, hc3⟩
  obtain ⟨z3, k1, k2, k3, k4, k5⟩ := hc3
  have K1 := Lib.hid k1
  have K := Lib.hid (And.intro k2 (And.intro k3 (And.intro k4 k5)))
  clear k1 k2 k3 k4 k5
  go_wp2_with fail
  refine (countOk_any w3 w.heap.size z3 K1.out).mono ?_
  rintro e w4 ⟨rfl, hw4⟩
  obtain rfl := hw4.symm
  go_wp2_with fail
  go_ret
  refine ⟨_, rfl, fun h => ?_, Hb.out.upd (Nat.le_refl _) K.out.2.2.2 (fun b hb => by omega)⟩
  have h0 := of_decide_eq_true h
  have h1 := K.out.2.1 h0
  omega
end Go.Proofs.Ythnbinlllmkabaa
