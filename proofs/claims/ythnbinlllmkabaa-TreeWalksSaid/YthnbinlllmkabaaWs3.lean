/- TreeWalks: the closure over Children that goes through them again. -/
import Derived.Test.YthnbinlllmkabaaWs2
namespace Go.Proofs.Ythnbinlllmkabaa
open Go.RowKit Go.Shelf
set_option linter.unusedVariables false
set_option linter.unusedSimpArgs false

/-- The tree's own lists. -/
structure WTt (W : World) (B0 p dt' : Nat) (n : Nd) (an ak : Option Addr) (cn ck : Nat) (ps : List Nat) : Prop where
  p39 : W.cell? ⟨p, 39, none⟩ = some (.slice an n.kids.length cn)
  p40 : W.cell? ⟨p, 40, none⟩ = some (.slice ak n.kids.length ck)
  ns : Sl W 1 (.slice an n.kids.length cn) n.kids.length (strs (n.kids.map Nd.name))
  ks : Sl W 1 (.slice ak n.kids.length ck) n.kids.length (ptrs ps)
  nlt : ∀ b, ob an = some b → n.kids ≠ [] → b < B0
  klt : ∀ b, ob ak = some b → n.kids ≠ [] → b < B0
  psl : ps.length = n.kids.length
  sub : ∀ (j q : Nat) (x : Nd), ps[j]? = some q → n.kids[j]? = some x → TreeAt W (fun b => b < B0) dt' q x
  plt : p < B0
theorem strs_nil {ks : List Nd} (h : ks = []) : strs (ks.map Nd.name) = [] := by rw [h]; rfl
theorem WTt.kept {W W' : World} {B0 p dt' : Nat} {n : Nd} {an ak : Option Addr} {cn ck : Nat} {ps : List Nat} (h : WTt W B0 p dt' n an ak cn ck ps) (hu : Upd (fun b => B0 ≤ b) W W') : WTt W' B0 p dt' n an ak cn ck ps := by
  have := h.plt
  refine ⟨hu.cell h.p39 (by show ¬ B0 ≤ p; omega), hu.cell h.p40 (by show ¬ B0 ≤ p; omega), h.ns.kept hu (fun k hk hx => ?_), h.ks.kept hu (fun k hk hx => ?_), h.nlt, h.klt, h.psl, fun j q x h1 h2 => TreeAt.kept hu (fun b hb => by omega) _ _ _ (h.sub j q x h1 h2), h.plt⟩
  · have := h.nlt k (by rw [← own_ob an n.kids.length cn]; exact hk) (fun e => hx (strs_nil e)); omega
  · have := h.klt k (by rw [← own_ob ak n.kids.length ck]; exact hk) (fun e => hx (by
      have h1 := h.psl
      rw [e] at h1
      rw [List.length_eq_zero_iff.1 h1]; rfl)); omega
section
variable {w0 W : World} {B0 b2 b9 b10 tc ta b11 b12 p d dt : Nat} {n : Nd} {a : Option Addr} {c M : Nat} {aw : Option Addr} {cw : Nat} {an : Option Addr} {cn : Nat} {dt' : Nat} {an2 ak2 : Option Addr} {cn2 ck2 : Nat} {ps : List Nat}
/-- A child, out of what lies still. -/
theorem WSt.kid (h : WSt w0 W B0 b2 b9 b10 tc ta b11 b12 p d dt n a c M aw cw an cn) (ht : WTt W B0 p dt' n an2 ak2 cn2 ck2 ps) (j : Nat) (hj : j < n.kids.length) (hjp : j < ps.length) :
    ∃ (gn on gk ok d' : Nat) (a' : Option Addr) (c' : Nat), an = some ⟨gn, on, none⟩ ∧ a = some ⟨gk, ok, none⟩ ∧ gn < B0 ∧ gk < B0 ∧ KidAt W b2 b12 gn on gk ok n.kids.length cn c dt' ps[j] j n.kids[j].name n.kids[j] (fun b => b < B0) d' a' c' (fun b => b < B0) := by
  obtain ⟨gn, on, rfl, _, hcn⟩ := h.names.open_ (by simp [strs]; omega)
  have hd : ∃ e, d = e + 1 := by
    cases d with
    | zero => exfalso; have h0 : n.kids = [] := h.src.kids; rw [h0] at hj; exact absurd hj (Nat.not_lt_zero _)
    | succ e => exact ⟨e, rfl⟩
  obtain ⟨d', rfl⟩ := hd
  obtain ⟨gk, ok, a', c', rfl, hF, hr, hni⟩ := h.src.kids.at hj
  refine ⟨gn, on, gk, ok, d', a', c', rfl, rfl, h.nameslt gn rfl, hF, cell1 h.hn, hcn j (.string n.kids[j].name) (by simp [strs, hj]), ?_, hr, hni, ht.sub j _ _ (List.getElem?_eq_getElem hjp) (List.getElem?_eq_getElem hj), hj⟩
  have := (nrow_at (o := 0) h.src.vwf (rangeAt_row h.box)).2.2.2
  simpa using this
end
/-- One go over the children within another: what its closure keeps. -/
theorem inner_ok (w0 w1 : World) (B0 b2 b9 b10 tc ta b11 b12 p d dt : Nat) (n : Nd) (a : Option Addr) (c M : Nat) (aw : Option Addr) (cw : Nat) (an : Option Addr) (cn : Nat) (dt' : Nat) (an2 ak2 : Option Addr) (cn2 ck2 : Nat) (ps : List Nat) (bok bk : Nat)
    (h : WSt w0 w1 B0 b2 b9 b10 tc ta b11 b12 p d dt n a c M aw cw an cn) (ht : WTt w1 B0 p dt' n an2 ak2 cn2 ck2 ps) (hm : n.kids.length ≤ 1000000) (hok : w1.heap[bok]? = some (.cells #[.bool true] 4 (0, 0))) (hk : w1.heap[bk]? = some (.cells #[.int .i64 0] 3 (0, 0))) (hbo : B0 ≤ bok) (hbk : B0 ≤ bk) (hne : bk ≠ bok) :
    Calls Try.prog 78 #[.func (.func 27) #[] #[.pointer (some ⟨bok, 0, none⟩), .pointer (some ⟨bk, 0, none⟩), .pointer (some ⟨b12, 0, none⟩), .pointer (some ⟨b2, 0, none⟩)], .pointer (some ⟨tc, 0, none⟩)] w1 fun e w' => (∃ v, e = .returned v) ∧
      w'.heap[bok]? = some (.cells #[.bool true] 4 (0, 0)) ∧ w'.heap[bk]? = some (.cells #[.int .i64 (n.kids.length : Nat)] 3 (0, 0)) ∧ Upd (fun b => b = bok ∨ b = bk) w1 w' := by
  have hpl := ht.psl
  have hkn : ∀ j : Fin n.kids.length, n.kids ≠ [] := fun j e => by
    have h1 := j.2
    have h2 : n.kids.length = 0 := by rw [e]; rfl
    omega
  have hS : ∀ b, b < B0 → ¬ (b = bok ∨ b = bk) := fun b hb => by omega
  have hlt := h.lt
  refine (childrenD_ok w1 (fun b => b = bok ∨ b = bk) tc p n.kids.length an2 ak2 cn2 ck2 (fun j => n.kids[j.1].name) (fun j => ps[j.1]'(by rw [hpl]; exact j.2)) 27 _
    (fun k W => W.heap[bok]? = some (.cells #[.bool true] 4 (0, 0)) ∧ W.heap[bk]? = some (.cells #[.int .i64 (k : Nat)] 3 (0, 0)) ∧ Upd (fun b => b = bok ∨ b = bk) w1 W) (fun _ => False)
    (enters_of Try.func27 (by kernel_rfl) rfl) ?_ hm (cell1 h.htc) (hS tc (by omega)) ht.p39 ht.p40 (hS p ht.plt) (fun j => ?_) (fun j => ?_) ⟨hok, hk, Upd.refl _ _⟩).mono ?_
  · rintro j W ⟨h1, h2, h3⟩
    have hjp : j.1 < ps.length := by rw [hpl]; exact j.2
    obtain ⟨gn, on, gk, ok, d', a', c', rfl, rfl, g1, g2, hK⟩ := h.kid ht j.1 j.2 hjp
    have hK2 := hK.kept h3 ⟨hS b12 (by omega), hS gn g1, hS b2 (by omega), hS gk g2⟩ (fun b hb => hS b hb) (fun b hb => hS b hb)
    refine (walks21_ok W b2 b12 gn on gk ok n.kids.length cn c dt' ps[j.1] j.1 n.kids[j.1].name n.kids[j.1] (fun b => b < B0) d' a' c' (fun b => b < B0) bok bk hK2 hm h1 h2 (by omega)).mono ?_
    rintro e W' ⟨rfl, k1, k2, k3⟩
    exact .inl ⟨rfl, ⟨k1, k2, h3.trans k3⟩, k3⟩
  · obtain ⟨g, off, he, _, hc⟩ := ht.ns.open_ (by simp [strs]; have := j.2; omega)
    subst he
    exact ⟨g, off, rfl, hS g (ht.nlt g rfl (hkn j)), hc j.1 (.string n.kids[j.1].name) (by simp [strs])⟩
  · have hjp : j.1 < ps.length := by rw [hpl]; exact j.2
    obtain ⟨g, off, he, _, hc⟩ := ht.ks.open_ (by simp [ptrs]; omega)
    subst he
    exact ⟨g, off, rfl, hS g (ht.klt g rfl (hkn j)), hc j.1 (.pointer (some ⟨ps[j.1], 0, none⟩)) (by simp [ptrs, hjp])⟩
  · rintro e w' ⟨h1, h2 | h2, h3⟩
    · exact ⟨h1, h2.1, h2.2.1, h2.2.2⟩
    · exact h2.elim
set_option maxHeartbeats 16000000 in
set_option maxRecDepth 100000 in
theorem walks2_ok (w0 W : World) (B0 b2 b9 b10 tc ta b11 b12 p d dt : Nat) (n : Nd) (a : Option Addr) (c M : Nat) (aw : Option Addr) (cw : Nat) (an : Option Addr) (cn : Nat) (dt' : Nat) (an2 ak2 : Option Addr) (cn2 ck2 : Nat) (ps : List Nat) (bok bi i : Nat) (x : Nd) (q m : Nat)
    (h : WSt w0 W B0 b2 b9 b10 tc ta b11 b12 p d dt n a c M aw cw an cn) (ht : WTt W B0 p dt' n an2 ak2 cn2 ck2 ps) (hpt : n.parts ≤ 1000000) (hkd : n.kinded) (hm : n.kids.length = m) (hx : n.kids[i]? = some x) (hq : ps[i]? = some q)
    (hok : W.heap[bok]? = some (.cells #[.bool true] 4 (0, 0))) (hi : W.heap[bi]? = some (.cells #[.int .i64 (i : Nat)] 3 (0, 0))) (hbo : B0 ≤ bok) (hbi : B0 ≤ bi) :
    Calls Try.prog 26 (#[.string x.name, .pointer (some ⟨q, 0, none⟩)] ++ #[.pointer (some ⟨b12, 0, none⟩), .pointer (some ⟨b9, 0, none⟩), .pointer (some ⟨bok, 0, none⟩), .pointer (some ⟨b2, 0, none⟩), .pointer (some ⟨bi, 0, none⟩)]) W fun e W' =>
      e = .returned (.bool true) ∧ W'.heap[bok]? = some (.cells #[.bool true] 4 (0, 0)) ∧ W'.heap[bi]? = some (.cells #[.int .i64 ((i + 1 : Nat) : Int)] 3 (0, 0)) ∧ Upd (fun b => b = bok ∨ b = bi) W W' := by
  have hil : i < n.kids.length := (List.getElem?_eq_some_iff.1 hx).1
  have hip : i < ps.length := (List.getElem?_eq_some_iff.1 hq).1
  obtain ⟨gn, on, gk, ok, d', a', c', rfl, rfl, hg1, hg2, hK⟩ := h.kid ht i hil hip
  have ex : n.kids[i] = x := by rw [List.getElem?_eq_getElem hil] at hx; exact Option.some.inj hx
  have eq' : ps[i] = q := by rw [List.getElem?_eq_getElem hip] at hq; exact Option.some.inj hq
  rw [ex, eq', hm] at hK
  have hme : m ≤ 1000000 := by have h1 := partsAll_len n.kids; have := parts_eq n; omega
  have him : i < m := by omega
  have hxp := partsAll_get (ks := n.kids) hil
  rw [ex] at hxp
  have Hxp := Lib.hid (show x.parts ≤ 1000000 by have := parts_eq n; omega)
  have Hxk := Lib.hid (show x.kinded by rw [kinded_eq] at hkd; rw [← ex]; exact kindedAll_get _ hkd.2 i hil)
  obtain ⟨s, hs⟩ : ∃ s, s = x.name := ⟨_, rfl⟩
  rw [← hs] at hK ⊢
  have hvw := hK.node.vwf
  have hlt := h.lt
  have hbb : bi ≠ bok := by
    intro e
    rw [e, hok] at hi
    injection hi with hi
    injection hi with _ hT _
    exact absurd hT (by decide)
  have Hh := Lib.hid h
  have Ht := Lib.hid ht
  have Hm := Lib.hid hm
  have HK := Lib.hid hK
  have Hoi := Lib.hid (And.intro hok hi)
  have hokW := lt_heap hok
  have hiW := lt_heap hi
  have hb1 := on_alloc (Below.refl _ W) (.cells #[.int .i64 0] 3)
  have hk1 := heap_alloc_new W (.cells #[.int .i64 0] 3)
  have hs1 := h.below hb1
  have fn := cell1 hs1.hn
  rw [hm] at fn
  have fc := cell1 hs1.hc
  have hokl1 := (Below.heap_alloc W (.cells #[.int .i64 0] 3) bok hokW).trans hok
  have hin := Lib.hid (inner_ok w0 (W.alloc (.cells #[.int .i64 0] 3)) B0 b2 b9 b10 tc ta b11 b12 p d dt n _ c M aw cw _ cn dt' an2 ak2 cn2 ck2 ps bok W.heap.size hs1 (ht.kept (Upd.below hb1 _)) (by omega) hokl1 hk1 hbo (by have := hbo; omega) (by omega))
  have Hb1 := Lib.hid hb1
  have Hk1 := Lib.hid hk1
  have Hok1 := Lib.hid hokl1
  clear hx hq hK ex eq' hxp h ht hm hok hi hb1 hk1 hs1 hpt hkd hil hip hs hokl1
  by_cases h30 : m ≤ 30
  · have i30 : (m : Int) ≤ 30 := by omega
    go_enter Try.func26, Try.ntmps26
    go_wp2_with fail
    refine hin.out.mono ?_
    rintro e w3 ⟨⟨vr, rfl⟩, k1, k2, k3⟩
    rw [Hm.out] at k2
    have hs3 := (Hh.out.below Hb1.out).kept (k3.mono (fun b _ hb => by have := Hb1.out.size; show B0 ≤ b; omega))
    have g0 := cell1 k1
    have g1 := cell1 k2
    have g2 := cell1 hs3.hn
    rw [Hm.out] at g2
    have y0 := frozen_of_row _ bok 0 _ _ k1
    have hu4 : Upd (fun b => b = bok) w3 (w3.setCell ⟨bok, 0, none⟩ (.bool true)) := (Upd.refl _ _).setCell _ _ (fun _ => rfl)
    have hok4 := heap_setCell_same w3 bok 0 _ _ (.bool true) k1
    simp at hok4
    have Hu4 := Lib.hid ((Upd.below Hb1.out (fun b => b = bok)).then (k3.then hu4 (T := fun b => b = bok) (S := fun b => b = bok ∨ b = W.heap.size) (fun i _ hi => .inl hi)) (fun i hi hS => by
      rcases hS with h | h
      · exact h
      · omega))
    have Hok4 := Lib.hid hok4
    clear k1 k2 k3 hs3 hu4 hok4
    go_wp2_with fail
    generalize w3.setCell ⟨bok, 0, none⟩ (.bool true) = w2 at Hu4 Hok4 ⊢
    clear g0 g1 g2 y0 fn fc
    have hK2 := HK.out.kept Hu4.out (by omega) (fun b hb => by omega) (fun b hb => by omega)
    have hi2 := Hu4.out.at_ Hoi.out.2 hbb
    have hokl := lt_heap Hok4.out
    have Htx := Lib.hid hK2.tree
    have Hnx := Lib.hid hK2.node
    have hz := fun w => eq_value x.v x.v hvw.1 hvw.1 w
    have inf35 : (Try.prog.info? 24).map (·.size) = some x.v.cells.length := by rw [x.v.cells_length hvw]; kernel_rfl
    have und35 := Try.underlying24
    have inf41 : (Try.prog.info? 30).map (·.size) = some (x.row a' c').length := by rw [row_len hvw]; kernel_rfl
    have und41 := Try.underlying30
    have HS0 := Lib.hid (And.intro Hok4.out hi2)
    have HK0 := Lib.hid (And.intro hK2.n12 (And.intro hK2.str (And.intro hK2.kids (And.intro (nrow_at hvw hK2.row).2.1 hK2.row))))
    have HS := Lib.hid (show ∀ w', Below w2.heap.size w2 w' → w'.cell? ⟨bok, 0, none⟩ = some (.bool true) ∧ w'.frozen? ⟨bok, 0, none⟩ = false ∧ w'.cell? ⟨bi, 0, none⟩ = some (.int .i64 (i : Nat)) ∧ w'.cell? ⟨b12, 0, none⟩ = some (.slice (some ⟨gn, on, none⟩) m cn) ∧ w'.cell? ⟨gn, on + i, none⟩ = some (.string s) ∧ w'.cell? ⟨b2, 40, none⟩ = some (.slice (some ⟨gk, ok, none⟩) m c) ∧ w'.rangeAt gk (ok + i * 41 + 1) x.v.cells ∧ w'.rangeAt gk (ok + i * 41) (x.row a' c') from fun w' hb => by
      have hu := Upd.below hb (fun _ => False)
      obtain ⟨q1, q2⟩ := HS0.out
      obtain ⟨q3, q4, q5, q6, q7⟩ := HK0.out
      exact ⟨cell1 (hu.at_ q1 id), frozen_of_row _ _ _ _ _ (hu.at_ q1 id), cell1 (hu.at_ q2 id), hu.cell q3 id, hu.cell q4 id, hu.cell q5 id, rangeAt_kept q6 hu id, rangeAt_kept q7 hu id⟩)
    have hne : bi ≠ bok ∧ b12 ≠ bok ∧ gn ≠ bok ∧ b2 ≠ bok ∧ gk ≠ bok := by omega
    have i1 : (0 : Int) ≤ (i : Int) := by omega
    have i3 : (i : Int) < (m : Int) := by omega
    clear hK2 hi2
    (try go_wp2_with fail)
    refine wp_region_noPanic ?_
    refine wp_region_held_drew (S := (fun w' => w'.cell? ⟨bok, 0, none⟩ = some (.bool true) ∧ w'.frozen? ⟨bok, 0, none⟩ = false ∧ w'.cell? ⟨bi, 0, none⟩ = some (.int .i64 (i : Nat)) ∧ w'.cell? ⟨b12, 0, none⟩ = some (.slice (some ⟨gn, on, none⟩) m cn) ∧ w'.cell? ⟨gn, on + i, none⟩ = some (.string s) ∧ w'.cell? ⟨b2, 40, none⟩ = some (.slice (some ⟨gk, ok, none⟩) m c) ∧ w'.rangeAt gk (ok + i * 41 + 1) x.v.cells ∧ w'.rangeAt gk (ok + i * 41) (x.row a' c'))) (by kernel_rfl) ?_ (fun hHeld => ?_)
    · (try dsimp only); (first | exact HS.out _ Hk3.out | exact HS.out _ Hk2.out | exact HS.out _ Hk1.out | exact HS.out _ (on_drew (Below.refl _ _)) | exact HS.out _ (Below.refl _ _))
    refine wpAnyH_take (i := 0) (v := ?_) rfl (by kernel_rfl) (by kernel_rfl) (by kernel_rfl) (fun _ _ _ h => h) (Or.inl ⟨by rfl, ?_⟩) (by assumption) ?_
    rotate_left
    · intro w hSw; (try dsimp only at hSw); go_simp; (try with_reducible rfl)
    (try simp only [List.getElem_toArray, List.getElem_cons_succ, List.getElem_cons_zero, Act.put, List.setIfInBounds_toArray, List.set_cons_zero, List.set_cons_succ])
    refine wpAnyH_take (i := 1) (v := ?_) rfl (by kernel_rfl) (by kernel_rfl) (by kernel_rfl) (fun _ _ _ h => h) (Or.inl ⟨by rfl, ?_⟩) (by assumption) ?_
    rotate_left
    · intro w hSw; (try dsimp only at hSw); go_simp; (try with_reducible rfl)
    (try simp only [List.getElem_toArray, List.getElem_cons_succ, List.getElem_cons_zero, Act.put, List.setIfInBounds_toArray, List.set_cons_zero, List.set_cons_succ])
    refine wpAnyH_take (i := 2) (v := ?_) rfl (by kernel_rfl) (by kernel_rfl) (by kernel_rfl) (fun _ _ _ h => h) (Or.inl ⟨by rfl, ?_⟩) (by assumption) ?_
    rotate_left
    · intro w hSw; (try dsimp only at hSw); go_simp; (try with_reducible rfl)
    (try simp only [List.getElem_toArray, List.getElem_cons_succ, List.getElem_cons_zero, Act.put, List.setIfInBounds_toArray, List.set_cons_zero, List.set_cons_succ])
    refine wpAnyH_take (i := 3) (v := ?_) rfl (by kernel_rfl) (by kernel_rfl) (by kernel_rfl) (fun _ _ _ h => h) (Or.inl ⟨by rfl, ?_⟩) (by assumption) ?_
    rotate_left
    · intro w hSw; (try dsimp only at hSw); go_simp; (try with_reducible rfl)
    (try simp only [List.getElem_toArray, List.getElem_cons_succ, List.getElem_cons_zero, Act.put, List.setIfInBounds_toArray, List.set_cons_zero, List.set_cons_succ])
    refine wpAnyH_take (i := 4) (v := ?_) rfl (by kernel_rfl) (by kernel_rfl) (by kernel_rfl) (fun _ _ _ h => h) (Or.inl ⟨by rfl, ?_⟩) (by assumption) ?_
    rotate_left
    · intro w hSw; (try dsimp only at hSw); go_simp; (try with_reducible rfl)
    (try simp only [List.getElem_toArray, List.getElem_cons_succ, List.getElem_cons_zero, Act.put, List.setIfInBounds_toArray, List.set_cons_zero, List.set_cons_succ])
    refine wpAnyH_take (i := 5) (v := ?_) rfl (by kernel_rfl) (by kernel_rfl) (by kernel_rfl) (fun _ _ _ h => h) (Or.inl ⟨by rfl, ?_⟩) (by assumption) ?_
    rotate_left
    · intro w hSw; (try dsimp only at hSw); go_simp; (try with_reducible rfl)
    (try simp only [List.getElem_toArray, List.getElem_cons_succ, List.getElem_cons_zero, Act.put, List.setIfInBounds_toArray, List.set_cons_zero, List.set_cons_succ])
    refine wpAnyH_take (i := 6) (v := ?_) rfl (by kernel_rfl) (by kernel_rfl) (by kernel_rfl) (fun _ _ _ h => h) (Or.inl ⟨by rfl, ?_⟩) (by assumption) ?_
    rotate_left
    · intro w hSw; (try dsimp only at hSw); go_simp; (try with_reducible rfl)
    (try simp only [List.getElem_toArray, List.getElem_cons_succ, List.getElem_cons_zero, Act.put, List.setIfInBounds_toArray, List.set_cons_zero, List.set_cons_succ])
    refine wpAnyH_take (i := 7) (v := ?_) rfl (by kernel_rfl) (by kernel_rfl) (by kernel_rfl) (fun _ _ _ h => h) (Or.inl ⟨by rfl, ?_⟩) (by assumption) ?_
    rotate_left
    · intro w hSw; (try dsimp only at hSw); go_simp; (try with_reducible rfl)
    (try simp only [List.getElem_toArray, List.getElem_cons_succ, List.getElem_cons_zero, Act.put, List.setIfInBounds_toArray, List.set_cons_zero, List.set_cons_succ])
    refine wpAnyH_take (i := 8) (v := ?_) rfl (by kernel_rfl) (by kernel_rfl) (by kernel_rfl) (fun _ _ _ h => h) (Or.inl ⟨by rfl, ?_⟩) (by assumption) ?_
    rotate_left
    · intro w hSw; (try dsimp only at hSw); go_simp; (try with_reducible rfl)
    (try simp only [List.getElem_toArray, List.getElem_cons_succ, List.getElem_cons_zero, Act.put, List.setIfInBounds_toArray, List.set_cons_zero, List.set_cons_succ])
    refine wpAnyH_take (i := 9) (v := ?_) rfl (by kernel_rfl) (by kernel_rfl) (by kernel_rfl) (fun _ _ _ h => h) (Or.inl ⟨by rfl, ?_⟩) (by assumption) ?_
    rotate_left
    · intro w hSw; (try dsimp only at hSw); go_simp; (try with_reducible rfl)
    (try simp only [List.getElem_toArray, List.getElem_cons_succ, List.getElem_cons_zero, Act.put, List.setIfInBounds_toArray, List.set_cons_zero, List.set_cons_succ])
    refine wpAnyH_take (i := 10) (v := ?_) rfl (by kernel_rfl) (by kernel_rfl) (by kernel_rfl) (fun _ _ _ h => h) (Or.inl ⟨by rfl, ?_⟩) (by assumption) ?_
    rotate_left
    · intro w hSw; (try dsimp only at hSw); go_simp; (try with_reducible rfl)
    (try simp only [List.getElem_toArray, List.getElem_cons_succ, List.getElem_cons_zero, Act.put, List.setIfInBounds_toArray, List.set_cons_zero, List.set_cons_succ])
    refine wpAnyH_take (i := 11) (v := ?_) rfl (by kernel_rfl) (by kernel_rfl) (by kernel_rfl) (fun _ _ _ h => h) (Or.inl ⟨by rfl, ?_⟩) (by assumption) ?_
    rotate_left
    · intro w hSw; (try dsimp only at hSw); go_simp; (try with_reducible rfl)
    (try simp only [List.getElem_toArray, List.getElem_cons_succ, List.getElem_cons_zero, Act.put, List.setIfInBounds_toArray, List.set_cons_zero, List.set_cons_succ])
    refine wpAnyH_take (i := 12) (v := ?_) rfl (by kernel_rfl) (by kernel_rfl) (by kernel_rfl) (fun _ _ _ h => h) (Or.inl ⟨by rfl, ?_⟩) (by assumption) ?_
    rotate_left
    · intro w hSw; (try dsimp only at hSw); go_simp; (try with_reducible rfl)
    (try simp only [List.getElem_toArray, List.getElem_cons_succ, List.getElem_cons_zero, Act.put, List.setIfInBounds_toArray, List.set_cons_zero, List.set_cons_succ])
    refine wpAnyH_take (i := 13) (v := ?_) rfl (by kernel_rfl) (by kernel_rfl) (by kernel_rfl) (fun _ _ _ h => h) (Or.inl ⟨by rfl, ?_⟩) (by assumption) ?_
    rotate_left
    · intro w hSw; (try dsimp only at hSw); go_simp; (try with_reducible rfl)
    (try simp only [List.getElem_toArray, List.getElem_cons_succ, List.getElem_cons_zero, Act.put, List.setIfInBounds_toArray, List.set_cons_zero, List.set_cons_succ])
    refine wpAnyH_take (i := 14) (v := ?_) rfl (by kernel_rfl) (by kernel_rfl) (by kernel_rfl) (fun _ _ _ h => h) (Or.inl ⟨by rfl, ?_⟩) (by assumption) ?_
    rotate_left
    · intro w hSw; (try dsimp only at hSw); go_simp; (try with_reducible rfl)
    (try simp only [List.getElem_toArray, List.getElem_cons_succ, List.getElem_cons_zero, Act.put, List.setIfInBounds_toArray, List.set_cons_zero, List.set_cons_succ])
    refine wpAnyH_take (i := 15) (v := ?_) rfl (by kernel_rfl) (by kernel_rfl) (by kernel_rfl) (fun _ _ _ h => h) (Or.inl ⟨by rfl, ?_⟩) (by assumption) ?_
    rotate_left
    · intro w hSw; (try dsimp only at hSw); go_simp; (try with_reducible rfl)
    (try simp only [List.getElem_toArray, List.getElem_cons_succ, List.getElem_cons_zero, Act.put, List.setIfInBounds_toArray, List.set_cons_zero, List.set_cons_succ])
    refine wpAnyH_take (i := 16) (v := ?_) rfl (by kernel_rfl) (by kernel_rfl) (by kernel_rfl) (fun _ _ _ h => h) (Or.inl ⟨by rfl, ?_⟩) (by assumption) ?_
    rotate_left
    · intro w hSw; (try dsimp only at hSw); go_simp; (try with_reducible rfl)
    (try simp only [List.getElem_toArray, List.getElem_cons_succ, List.getElem_cons_zero, Act.put, List.setIfInBounds_toArray, List.set_cons_zero, List.set_cons_succ])
    refine wpAnyH_take (i := 17) (v := ?_) rfl (by kernel_rfl) (by kernel_rfl) (by kernel_rfl) (fun _ _ _ h => h) (Or.inl ⟨by rfl, ?_⟩) (by assumption) ?_
    rotate_left
    · intro w hSw; (try dsimp only at hSw); go_simp; (try with_reducible rfl)
    (try simp only [List.getElem_toArray, List.getElem_cons_succ, List.getElem_cons_zero, Act.put, List.setIfInBounds_toArray, List.set_cons_zero, List.set_cons_succ])
    refine wpAnyH_take (i := 18) (v := ?_) rfl (by kernel_rfl) (by kernel_rfl) (by kernel_rfl) (fun _ _ _ h => h) (Or.inl ⟨by rfl, ?_⟩) (by assumption) ?_
    rotate_left
    · intro w hSw; (try dsimp only at hSw); go_simp; (try with_reducible rfl)
    (try simp only [List.getElem_toArray, List.getElem_cons_succ, List.getElem_cons_zero, Act.put, List.setIfInBounds_toArray, List.set_cons_zero, List.set_cons_succ])
    refine wpAnyH_take (i := 19) (v := ?_) rfl (by kernel_rfl) (by kernel_rfl) (by kernel_rfl) (fun _ _ _ h => h) (Or.inl ⟨by rfl, ?_⟩) (by assumption) ?_
    rotate_left
    · intro w hSw; (try dsimp only at hSw); go_simp; (try with_reducible rfl)
    (try simp only [List.getElem_toArray, List.getElem_cons_succ, List.getElem_cons_zero, Act.put, List.setIfInBounds_toArray, List.set_cons_zero, List.set_cons_succ])
    refine wpAnyH_take (i := 20) (v := ?_) rfl (by kernel_rfl) (by kernel_rfl) (by kernel_rfl) (fun _ _ _ h => h) (Or.inl ⟨by rfl, ?_⟩) (by assumption) ?_
    rotate_left
    · intro w hSw; (try dsimp only at hSw); go_simp; (try with_reducible rfl)
    (try simp only [List.getElem_toArray, List.getElem_cons_succ, List.getElem_cons_zero, Act.put, List.setIfInBounds_toArray, List.set_cons_zero, List.set_cons_succ])
    refine wpAnyH_take (i := 22) (v := ?_) rfl (by kernel_rfl) (by kernel_rfl) (by kernel_rfl) (fun _ _ _ h => h) (Or.inl ⟨by rfl, ?_⟩) (by assumption) ?_
    rotate_left
    · intro w hSw; (try dsimp only at hSw); go_simp; (try with_reducible rfl)
    (try simp only [List.getElem_toArray, List.getElem_cons_succ, List.getElem_cons_zero, Act.put, List.setIfInBounds_toArray, List.set_cons_zero, List.set_cons_succ])
    refine wpAnyH_take (i := 23) (v := ?_) rfl (by kernel_rfl) (by kernel_rfl) (by kernel_rfl) (fun _ _ _ h => h) (Or.inl ⟨by rfl, ?_⟩) (by assumption) ?_
    rotate_left
    · intro w hSw; (try dsimp only at hSw); go_simp; (try with_reducible rfl)
    (try simp only [List.getElem_toArray, List.getElem_cons_succ, List.getElem_cons_zero, Act.put, List.setIfInBounds_toArray, List.set_cons_zero, List.set_cons_succ])
    refine wpAnyH_take (i := 24) (v := ?_) rfl (by kernel_rfl) (by kernel_rfl) (by kernel_rfl) (fun _ _ _ h => h) (Or.inl ⟨by rfl, ?_⟩) (by assumption) ?_
    rotate_left
    · intro w hSw; (try dsimp only at hSw); go_simp; (try with_reducible rfl)
    (try simp only [List.getElem_toArray, List.getElem_cons_succ, List.getElem_cons_zero, Act.put, List.setIfInBounds_toArray, List.set_cons_zero, List.set_cons_succ])
    refine wpAnyH_take (i := 25) (v := ?_) rfl (by kernel_rfl) (by kernel_rfl) (by kernel_rfl) (fun _ _ _ h => h) (Or.inl ⟨by rfl, ?_⟩) (by assumption) ?_
    rotate_left
    · intro w hSw; (try dsimp only at hSw); go_simp; (try with_reducible rfl)
    (try simp only [List.getElem_toArray, List.getElem_cons_succ, List.getElem_cons_zero, Act.put, List.setIfInBounds_toArray, List.set_cons_zero, List.set_cons_succ])
    refine wpAnyH_take (i := 26) (v := ?_) rfl (by kernel_rfl) (by kernel_rfl) (by kernel_rfl) (fun _ _ _ h => h) (Or.inl ⟨by rfl, ?_⟩) (by assumption) ?_
    rotate_left
    · intro w hSw; (try dsimp only at hSw); go_simp; (try with_reducible rfl)
    (try simp only [List.getElem_toArray, List.getElem_cons_succ, List.getElem_cons_zero, Act.put, List.setIfInBounds_toArray, List.set_cons_zero, List.set_cons_succ])
    refine' wpAnyH_take (i := 27) (v := _) rfl (by kernel_rfl) (by kernel_rfl) (by kernel_rfl) (fun _ _ _ h => h) (yieldsIf_load_mid (by rfl) _ _ rfl _ _ rfl _ _ ?hS27 ?hu27 ?hd27 ?hi27) (by assumption) ?rest1
    case hS27 => (intro w hSw; (try dsimp only at hSw); go_split_ands; assumption)
    case hu27 => assumption
    case hd27 => rfl
    case hi27 => first | assumption | (simp only [*]; done)
    (try simp only [List.getElem_toArray, List.getElem_cons_succ, List.getElem_cons_zero, Act.put, List.setIfInBounds_toArray, List.set_cons_zero, List.set_cons_succ])
    refine wpAnyH_ready (rs := [21]) (by kernel_rfl) (by simp) ?_
    refine AllReadyH.cons rfl (fun K hK => ?_) ?_
    rotate_left
    · exact AllReadyH.nil
    go_simp
    go_at_call 28
    refine (treeValue_ok (fun b => b < B0) dt' _ q x (Htx.out.below (on_drew (Below.refl _ _)))).mono ?_
    rintro e wn1 ⟨rfl, hbn⟩
    have Hb1 := Lib.hid hbn
    have Hk1 := Lib.hid (below_on (show Below w2.heap.size w2 w2.drew from on_drew (Below.refl _ _)) hbn)
    clear hbn
    (try go_wp2_with fail)
    refine hK.out _ _ ?_ (fun hHeld => ?_)
    · (try dsimp only); (first | exact HS.out _ Hk3.out | exact HS.out _ Hk2.out | exact HS.out _ Hk1.out | exact HS.out _ (on_drew (Below.refl _ _)) | exact HS.out _ (Below.refl _ _))
    clear hK K
    (try simp only [List.getElem_toArray, List.getElem_cons_succ, List.getElem_cons_zero, Act.put, List.setIfInBounds_toArray, List.set_cons_zero, List.set_cons_succ])
    refine wpAnyH_take (i := 28) (v := ?_) rfl (by kernel_rfl) (by kernel_rfl) (by kernel_rfl) (fun _ _ _ h => h) (Or.inl ⟨by rfl, ?_⟩) (by assumption) ?_
    rotate_left
    · intro w hSw; (try dsimp only at hSw); go_simp; (try with_reducible rfl)
    (try simp only [List.getElem_toArray, List.getElem_cons_succ, List.getElem_cons_zero, Act.put, List.setIfInBounds_toArray, List.set_cons_zero, List.set_cons_succ])
    refine wpAnyH_take (i := 29) (v := ?_) rfl (by kernel_rfl) (by kernel_rfl) (by kernel_rfl) (fun _ _ _ h => h) (Or.inl ⟨by rfl, ?_⟩) (by assumption) ?_
    rotate_left
    · intro w hSw; (try dsimp only at hSw); go_simp; (try with_reducible rfl)
    (try simp only [List.getElem_toArray, List.getElem_cons_succ, List.getElem_cons_zero, Act.put, List.setIfInBounds_toArray, List.set_cons_zero, List.set_cons_succ])
    refine wpAnyH_take (i := 30) (v := ?_) rfl (by kernel_rfl) (by kernel_rfl) (by kernel_rfl) (fun _ _ _ h => h) (Or.inl ⟨by rfl, ?_⟩) (by assumption) ?_
    rotate_left
    · intro w hSw; (try dsimp only at hSw); go_simp; (try with_reducible rfl)
    (try simp only [List.getElem_toArray, List.getElem_cons_succ, List.getElem_cons_zero, Act.put, List.setIfInBounds_toArray, List.set_cons_zero, List.set_cons_succ])
    refine wpAnyH_take (i := 31) (v := ?_) rfl (by kernel_rfl) (by kernel_rfl) (by kernel_rfl) (fun _ _ _ h => h) (Or.inl ⟨by rfl, ?_⟩) (by assumption) ?_
    rotate_left
    · intro w hSw; (try dsimp only at hSw); go_simp; (try with_reducible rfl)
    (try simp only [List.getElem_toArray, List.getElem_cons_succ, List.getElem_cons_zero, Act.put, List.setIfInBounds_toArray, List.set_cons_zero, List.set_cons_succ])
    refine wpAnyH_take (i := 33) (v := ?_) rfl (by kernel_rfl) (by kernel_rfl) (by kernel_rfl) (fun _ _ _ h => h) (Or.inl ⟨by rfl, ?_⟩) (by assumption) ?_
    rotate_left
    · intro w hSw; (try dsimp only at hSw); go_simp; (try with_reducible rfl)
    (try simp only [List.getElem_toArray, List.getElem_cons_succ, List.getElem_cons_zero, Act.put, List.setIfInBounds_toArray, List.set_cons_zero, List.set_cons_succ])
    refine wpAnyH_take (i := 34) (v := ?_) rfl (by kernel_rfl) (by kernel_rfl) (by kernel_rfl) (fun _ _ _ h => h) (Or.inl ⟨by rfl, ?_⟩) (by assumption) ?_
    rotate_left
    · intro w hSw; (try dsimp only at hSw); go_simp; (try with_reducible rfl)
    (try simp only [List.getElem_toArray, List.getElem_cons_succ, List.getElem_cons_zero, Act.put, List.setIfInBounds_toArray, List.set_cons_zero, List.set_cons_succ])
    refine wpAnyH_take (i := 35) (v := ?_) rfl (by kernel_rfl) (by kernel_rfl) (by kernel_rfl) (fun _ _ _ h => h) (Or.inl ⟨by rfl, ?_⟩) (by assumption) ?_
    rotate_left
    · intro w hSw; (try dsimp only at hSw); go_simp; (try with_reducible rfl)
    (try simp only [List.getElem_toArray, List.getElem_cons_succ, List.getElem_cons_zero, Act.put, List.setIfInBounds_toArray, List.set_cons_zero, List.set_cons_succ])
    refine wpAnyH_take (i := 36) (v := ?_) rfl (by kernel_rfl) (by kernel_rfl) (by kernel_rfl) (fun _ _ _ h => h) (Or.inl ⟨by rfl, ?_⟩) (by assumption) ?_
    rotate_left
    · intro w hSw; (try dsimp only at hSw); go_simp; (try with_reducible rfl)
    (try simp only [List.getElem_toArray, List.getElem_cons_succ, List.getElem_cons_zero, Act.put, List.setIfInBounds_toArray, List.set_cons_zero, List.set_cons_succ])
    refine' wpAnyH_take (i := 37) (v := _) rfl (by kernel_rfl) (by kernel_rfl) (by kernel_rfl) (fun _ _ _ h => h) (yieldsIf_load_mid (by rfl) _ _ rfl _ _ rfl _ _ ?hS37 ?hu37 ?hd37 ?hi37) (by assumption) ?rest2
    case hS37 => (intro w hSw; (try dsimp only at hSw); go_split_ands; assumption)
    case hu37 => assumption
    case hd37 => rfl
    case hi37 => first | assumption | (simp only [*]; done)
    (try simp only [List.getElem_toArray, List.getElem_cons_succ, List.getElem_cons_zero, Act.put, List.setIfInBounds_toArray, List.set_cons_zero, List.set_cons_succ])
    refine wpAnyH_ready (rs := [32]) (by kernel_rfl) (by simp) ?_
    refine AllReadyH.cons rfl (fun K hK => ?_) ?_
    rotate_left
    · exact AllReadyH.nil
    go_simp
    go_at_call 29
    refine (treeCount_ok (fun b => b < B0) dt' _ q x ((Htx.out.below (on_drew (Below.refl _ _))).below Hb1.out)).mono ?_
    rintro e wn2 ⟨rfl, hw⟩
    obtain rfl := hw.symm
    have Hk2 := Lib.hid Hk1.out
    (try go_wp2_with fail)
    refine hK.out _ _ ?_ (fun hHeld => ?_)
    · (try dsimp only); (first | exact HS.out _ Hk3.out | exact HS.out _ Hk2.out | exact HS.out _ Hk1.out | exact HS.out _ (on_drew (Below.refl _ _)) | exact HS.out _ (Below.refl _ _))
    clear hK K
    (try simp only [List.getElem_toArray, List.getElem_cons_succ, List.getElem_cons_zero, Act.put, List.setIfInBounds_toArray, List.set_cons_zero, List.set_cons_succ])
    refine wpAnyH_ready (rs := [38]) (by kernel_rfl) (by simp) ?_
    refine AllReadyH.cons rfl (fun K hK => ?_) ?_
    rotate_left
    · exact AllReadyH.nil
    go_simp
    go_at_call 30
    refine (refCount_ok (fun b => b < B0) d' _ x a' c' (Hnx.out.below Hk1.out) Hxp.out Hxk.out).mono ?_
    rintro e wn3 ⟨rfl, hbn⟩
    have Hk3 := Lib.hid (below_on Hk1.out hbn)
    clear hbn
    (try go_wp2_with fail)
    refine hK.out _ _ ?_ (fun hHeld => ?_)
    · (try dsimp only); (first | exact HS.out _ Hk3.out | exact HS.out _ Hk2.out | exact HS.out _ Hk1.out | exact HS.out _ (on_drew (Below.refl _ _)) | exact HS.out _ (Below.refl _ _))
    clear hK K
    (try simp only [List.getElem_toArray, List.getElem_cons_succ, List.getElem_cons_zero, Act.put, List.setIfInBounds_toArray, List.set_cons_zero, List.set_cons_succ])
    refine wpAnyH_take (i := 39) (v := ?_) rfl (by kernel_rfl) (by kernel_rfl) (by kernel_rfl) (fun _ _ _ h => h) (Or.inl ⟨by rfl, ?_⟩) (by assumption) ?_
    rotate_left
    · intro w hSw; (try dsimp only at hSw); go_simp; (try with_reducible rfl)
    (try simp only [List.getElem_toArray, List.getElem_cons_succ, List.getElem_cons_zero, Act.put, List.setIfInBounds_toArray, List.set_cons_zero, List.set_cons_succ])
    refine wpAnyH_take (i := 40) (v := ?_) rfl (by kernel_rfl) (by kernel_rfl) (by kernel_rfl) (fun _ _ _ h => h) (Or.inl ⟨by rfl, ?_⟩) (by assumption) ?_
    rotate_left
    · intro w hSw; (try dsimp only at hSw); go_simp; (try with_reducible rfl)
    (try simp only [List.getElem_toArray, List.getElem_cons_succ, List.getElem_cons_zero, Act.put, List.setIfInBounds_toArray, List.set_cons_zero, List.set_cons_succ])
    refine wpAnyH_ready (rs := [41]) (by kernel_rfl) (by simp) ?_
    refine AllReadyH.cons rfl (fun K hK => ?_) ?_
    rotate_left
    · exact AllReadyH.nil
    obtain ⟨e1, e2, _⟩ := HS.out _ Hk3.out
    go_simp
    have hu9 : Upd (fun b => b = bok) wn3 (wn3.setCell ⟨bok, 0, none⟩ (.bool true)) := (Upd.refl _ _).setCell _ _ (fun _ => rfl)
    have hset := heap_setCell_same wn3 bok 0 _ _ (.bool true) ((Hk3.out.block bok hokl).trans HS0.out.1)
    simp at hset
    refine hK.out _ _ ?_ (fun hHeld => ?_)
    · obtain ⟨q1, q2, q3, q4, q5, q6, q7, q8⟩ := HS.out _ Hk3.out
      exact ⟨cell1 hset, frozen_of_row _ _ _ _ _ hset, hu9.cell q3 hne.1, hu9.cell q4 hne.2.1, hu9.cell q5 hne.2.2.1, hu9.cell q6 hne.2.2.2.1, rangeAt_kept q7 hu9 hne.2.2.2.2, rangeAt_kept q8 hu9 hne.2.2.2.2⟩
    clear hK K
    (try simp only [List.getElem_toArray, List.getElem_cons_succ, List.getElem_cons_zero, Act.put, List.setIfInBounds_toArray, List.set_cons_zero, List.set_cons_succ])
    refine wpAnyH_done (by kernel_rfl) ?_ _
    refine NoPanic.normal ?_
    have hi9 := hu9.at_ ((Hk3.out.block bi (lt_heap HS0.out.2)).trans HS0.out.2) hne.1
    have Hu9 := Lib.hid (show Upd (fun b => b = bok ∨ b = bi) W (wn3.setCell ⟨bok, 0, none⟩ (.bool true)) from ((Hu4.out.mono (fun b _ hb => .inl hb)).then (Upd.below Hk3.out (fun _ => False)) (fun k _ hk => hk.elim)).then hu9 (fun k _ hk => .inl hk))
    generalize wn3.setCell ⟨bok, 0, none⟩ (.bool true) = w9 at hset hi9 hHeld Hu9 ⊢
    have f0 := cell1 hi9
    have z0 := frozen_of_row _ bi 0 _ _ hi9
    have hu10 : Upd (fun b => b = bi) w9 (w9.setCell ⟨bi, 0, none⟩ (.int .i64 ((i : Int) + 1))) := (Upd.refl _ _).setCell _ _ (fun _ => rfl)
    have hset2 := heap_setCell_same w9 bi 0 _ _ (.int .i64 ((i : Int) + 1)) hi9
    simp at hset2
    have hok2 := hu10.at_ hset (fun e => hne.1 e.symm)
    have f1 := cell1 hok2
    have ew : IntKind.i64.wrap ((i : Int) + 1) = (i : Int) + 1 := IntWalk.i64_in _ (by omega)
    have Hset2 := Lib.hid hset2
    have Hok2 := Lib.hid hok2
    have Hu10 := Lib.hid (Hu9.out.then hu10 (fun k _ hk => .inr hk))
    clear hset2 hok2 hu10 hset hi9 hHeld
    go_wp2
    go_ret
    exact ⟨rfl, Hok2.out, by rw [show ((i + 1 : Nat) : Int) = (i : Int) + 1 by omega]; exact Hset2.out, Hu10.out⟩
  · have i30 : ¬ (m : Int) ≤ 30 := by omega
    go_enter Try.func26, Try.ntmps26
    go_wp2_with fail
    have Hu4 := Lib.hid (Upd.below Hb1.out (fun b => b = bok))
    have Hok4 := Lib.hid Hok1.out
    generalize W.alloc (.cells #[.int .i64 0] 3) = w2 at Hu4 Hok4 ⊢
    clear fn fc
    have hK2 := HK.out.kept Hu4.out (by omega) (fun b hb => by omega) (fun b hb => by omega)
    have hi2 := Hu4.out.at_ Hoi.out.2 hbb
    have hokl := lt_heap Hok4.out
    have Htx := Lib.hid hK2.tree
    have Hnx := Lib.hid hK2.node
    have hz := fun w => eq_value x.v x.v hvw.1 hvw.1 w
    have inf35 : (Try.prog.info? 24).map (·.size) = some x.v.cells.length := by rw [x.v.cells_length hvw]; kernel_rfl
    have und35 := Try.underlying24
    have inf41 : (Try.prog.info? 30).map (·.size) = some (x.row a' c').length := by rw [row_len hvw]; kernel_rfl
    have und41 := Try.underlying30
    have HS0 := Lib.hid (And.intro Hok4.out hi2)
    have HK0 := Lib.hid (And.intro hK2.n12 (And.intro hK2.str (And.intro hK2.kids (And.intro (nrow_at hvw hK2.row).2.1 hK2.row))))
    have HS := Lib.hid (show ∀ w', Below w2.heap.size w2 w' → w'.cell? ⟨bok, 0, none⟩ = some (.bool true) ∧ w'.frozen? ⟨bok, 0, none⟩ = false ∧ w'.cell? ⟨bi, 0, none⟩ = some (.int .i64 (i : Nat)) ∧ w'.cell? ⟨b12, 0, none⟩ = some (.slice (some ⟨gn, on, none⟩) m cn) ∧ w'.cell? ⟨gn, on + i, none⟩ = some (.string s) ∧ w'.cell? ⟨b2, 40, none⟩ = some (.slice (some ⟨gk, ok, none⟩) m c) ∧ w'.rangeAt gk (ok + i * 41 + 1) x.v.cells ∧ w'.rangeAt gk (ok + i * 41) (x.row a' c') from fun w' hb => by
      have hu := Upd.below hb (fun _ => False)
      obtain ⟨q1, q2⟩ := HS0.out
      obtain ⟨q3, q4, q5, q6, q7⟩ := HK0.out
      exact ⟨cell1 (hu.at_ q1 id), frozen_of_row _ _ _ _ _ (hu.at_ q1 id), cell1 (hu.at_ q2 id), hu.cell q3 id, hu.cell q4 id, hu.cell q5 id, rangeAt_kept q6 hu id, rangeAt_kept q7 hu id⟩)
    have hne : bi ≠ bok ∧ b12 ≠ bok ∧ gn ≠ bok ∧ b2 ≠ bok ∧ gk ≠ bok := by omega
    have i1 : (0 : Int) ≤ (i : Int) := by omega
    have i3 : (i : Int) < (m : Int) := by omega
    clear hK2 hi2
    (try go_wp2_with fail)
    refine wp_region_noPanic ?_
    refine wp_region_held_drew (S := (fun w' => w'.cell? ⟨bok, 0, none⟩ = some (.bool true) ∧ w'.frozen? ⟨bok, 0, none⟩ = false ∧ w'.cell? ⟨bi, 0, none⟩ = some (.int .i64 (i : Nat)) ∧ w'.cell? ⟨b12, 0, none⟩ = some (.slice (some ⟨gn, on, none⟩) m cn) ∧ w'.cell? ⟨gn, on + i, none⟩ = some (.string s) ∧ w'.cell? ⟨b2, 40, none⟩ = some (.slice (some ⟨gk, ok, none⟩) m c) ∧ w'.rangeAt gk (ok + i * 41 + 1) x.v.cells ∧ w'.rangeAt gk (ok + i * 41) (x.row a' c'))) (by kernel_rfl) ?_ (fun hHeld => ?_)
    · (try dsimp only); (first | exact HS.out _ Hk3.out | exact HS.out _ Hk2.out | exact HS.out _ Hk1.out | exact HS.out _ (on_drew (Below.refl _ _)) | exact HS.out _ (Below.refl _ _))
    refine wpAnyH_take (i := 0) (v := ?_) rfl (by kernel_rfl) (by kernel_rfl) (by kernel_rfl) (fun _ _ _ h => h) (Or.inl ⟨by rfl, ?_⟩) (by assumption) ?_
    rotate_left
    · intro w hSw; (try dsimp only at hSw); go_simp; (try with_reducible rfl)
    (try simp only [List.getElem_toArray, List.getElem_cons_succ, List.getElem_cons_zero, Act.put, List.setIfInBounds_toArray, List.set_cons_zero, List.set_cons_succ])
    refine wpAnyH_take (i := 1) (v := ?_) rfl (by kernel_rfl) (by kernel_rfl) (by kernel_rfl) (fun _ _ _ h => h) (Or.inl ⟨by rfl, ?_⟩) (by assumption) ?_
    rotate_left
    · intro w hSw; (try dsimp only at hSw); go_simp; (try with_reducible rfl)
    (try simp only [List.getElem_toArray, List.getElem_cons_succ, List.getElem_cons_zero, Act.put, List.setIfInBounds_toArray, List.set_cons_zero, List.set_cons_succ])
    refine wpAnyH_take (i := 2) (v := ?_) rfl (by kernel_rfl) (by kernel_rfl) (by kernel_rfl) (fun _ _ _ h => h) (Or.inl ⟨by rfl, ?_⟩) (by assumption) ?_
    rotate_left
    · intro w hSw; (try dsimp only at hSw); go_simp; (try with_reducible rfl)
    (try simp only [List.getElem_toArray, List.getElem_cons_succ, List.getElem_cons_zero, Act.put, List.setIfInBounds_toArray, List.set_cons_zero, List.set_cons_succ])
    refine wpAnyH_take (i := 3) (v := ?_) rfl (by kernel_rfl) (by kernel_rfl) (by kernel_rfl) (fun _ _ _ h => h) (Or.inl ⟨by rfl, ?_⟩) (by assumption) ?_
    rotate_left
    · intro w hSw; (try dsimp only at hSw); go_simp; (try with_reducible rfl)
    (try simp only [List.getElem_toArray, List.getElem_cons_succ, List.getElem_cons_zero, Act.put, List.setIfInBounds_toArray, List.set_cons_zero, List.set_cons_succ])
    refine wpAnyH_take (i := 4) (v := ?_) rfl (by kernel_rfl) (by kernel_rfl) (by kernel_rfl) (fun _ _ _ h => h) (Or.inl ⟨by rfl, ?_⟩) (by assumption) ?_
    rotate_left
    · intro w hSw; (try dsimp only at hSw); go_simp; (try with_reducible rfl)
    (try simp only [List.getElem_toArray, List.getElem_cons_succ, List.getElem_cons_zero, Act.put, List.setIfInBounds_toArray, List.set_cons_zero, List.set_cons_succ])
    refine wpAnyH_take (i := 5) (v := ?_) rfl (by kernel_rfl) (by kernel_rfl) (by kernel_rfl) (fun _ _ _ h => h) (Or.inl ⟨by rfl, ?_⟩) (by assumption) ?_
    rotate_left
    · intro w hSw; (try dsimp only at hSw); go_simp; (try with_reducible rfl)
    (try simp only [List.getElem_toArray, List.getElem_cons_succ, List.getElem_cons_zero, Act.put, List.setIfInBounds_toArray, List.set_cons_zero, List.set_cons_succ])
    refine wpAnyH_take (i := 6) (v := ?_) rfl (by kernel_rfl) (by kernel_rfl) (by kernel_rfl) (fun _ _ _ h => h) (Or.inl ⟨by rfl, ?_⟩) (by assumption) ?_
    rotate_left
    · intro w hSw; (try dsimp only at hSw); go_simp; (try with_reducible rfl)
    (try simp only [List.getElem_toArray, List.getElem_cons_succ, List.getElem_cons_zero, Act.put, List.setIfInBounds_toArray, List.set_cons_zero, List.set_cons_succ])
    refine wpAnyH_take (i := 7) (v := ?_) rfl (by kernel_rfl) (by kernel_rfl) (by kernel_rfl) (fun _ _ _ h => h) (Or.inl ⟨by rfl, ?_⟩) (by assumption) ?_
    rotate_left
    · intro w hSw; (try dsimp only at hSw); go_simp; (try with_reducible rfl)
    (try simp only [List.getElem_toArray, List.getElem_cons_succ, List.getElem_cons_zero, Act.put, List.setIfInBounds_toArray, List.set_cons_zero, List.set_cons_succ])
    refine wpAnyH_take (i := 8) (v := ?_) rfl (by kernel_rfl) (by kernel_rfl) (by kernel_rfl) (fun _ _ _ h => h) (Or.inl ⟨by rfl, ?_⟩) (by assumption) ?_
    rotate_left
    · intro w hSw; (try dsimp only at hSw); go_simp; (try with_reducible rfl)
    (try simp only [List.getElem_toArray, List.getElem_cons_succ, List.getElem_cons_zero, Act.put, List.setIfInBounds_toArray, List.set_cons_zero, List.set_cons_succ])
    refine wpAnyH_take (i := 9) (v := ?_) rfl (by kernel_rfl) (by kernel_rfl) (by kernel_rfl) (fun _ _ _ h => h) (Or.inl ⟨by rfl, ?_⟩) (by assumption) ?_
    rotate_left
    · intro w hSw; (try dsimp only at hSw); go_simp; (try with_reducible rfl)
    (try simp only [List.getElem_toArray, List.getElem_cons_succ, List.getElem_cons_zero, Act.put, List.setIfInBounds_toArray, List.set_cons_zero, List.set_cons_succ])
    refine wpAnyH_take (i := 10) (v := ?_) rfl (by kernel_rfl) (by kernel_rfl) (by kernel_rfl) (fun _ _ _ h => h) (Or.inl ⟨by rfl, ?_⟩) (by assumption) ?_
    rotate_left
    · intro w hSw; (try dsimp only at hSw); go_simp; (try with_reducible rfl)
    (try simp only [List.getElem_toArray, List.getElem_cons_succ, List.getElem_cons_zero, Act.put, List.setIfInBounds_toArray, List.set_cons_zero, List.set_cons_succ])
    refine wpAnyH_take (i := 11) (v := ?_) rfl (by kernel_rfl) (by kernel_rfl) (by kernel_rfl) (fun _ _ _ h => h) (Or.inl ⟨by rfl, ?_⟩) (by assumption) ?_
    rotate_left
    · intro w hSw; (try dsimp only at hSw); go_simp; (try with_reducible rfl)
    (try simp only [List.getElem_toArray, List.getElem_cons_succ, List.getElem_cons_zero, Act.put, List.setIfInBounds_toArray, List.set_cons_zero, List.set_cons_succ])
    refine wpAnyH_take (i := 12) (v := ?_) rfl (by kernel_rfl) (by kernel_rfl) (by kernel_rfl) (fun _ _ _ h => h) (Or.inl ⟨by rfl, ?_⟩) (by assumption) ?_
    rotate_left
    · intro w hSw; (try dsimp only at hSw); go_simp; (try with_reducible rfl)
    (try simp only [List.getElem_toArray, List.getElem_cons_succ, List.getElem_cons_zero, Act.put, List.setIfInBounds_toArray, List.set_cons_zero, List.set_cons_succ])
    refine wpAnyH_take (i := 13) (v := ?_) rfl (by kernel_rfl) (by kernel_rfl) (by kernel_rfl) (fun _ _ _ h => h) (Or.inl ⟨by rfl, ?_⟩) (by assumption) ?_
    rotate_left
    · intro w hSw; (try dsimp only at hSw); go_simp; (try with_reducible rfl)
    (try simp only [List.getElem_toArray, List.getElem_cons_succ, List.getElem_cons_zero, Act.put, List.setIfInBounds_toArray, List.set_cons_zero, List.set_cons_succ])
    refine wpAnyH_take (i := 14) (v := ?_) rfl (by kernel_rfl) (by kernel_rfl) (by kernel_rfl) (fun _ _ _ h => h) (Or.inl ⟨by rfl, ?_⟩) (by assumption) ?_
    rotate_left
    · intro w hSw; (try dsimp only at hSw); go_simp; (try with_reducible rfl)
    (try simp only [List.getElem_toArray, List.getElem_cons_succ, List.getElem_cons_zero, Act.put, List.setIfInBounds_toArray, List.set_cons_zero, List.set_cons_succ])
    refine wpAnyH_take (i := 15) (v := ?_) rfl (by kernel_rfl) (by kernel_rfl) (by kernel_rfl) (fun _ _ _ h => h) (Or.inl ⟨by rfl, ?_⟩) (by assumption) ?_
    rotate_left
    · intro w hSw; (try dsimp only at hSw); go_simp; (try with_reducible rfl)
    (try simp only [List.getElem_toArray, List.getElem_cons_succ, List.getElem_cons_zero, Act.put, List.setIfInBounds_toArray, List.set_cons_zero, List.set_cons_succ])
    refine wpAnyH_take (i := 16) (v := ?_) rfl (by kernel_rfl) (by kernel_rfl) (by kernel_rfl) (fun _ _ _ h => h) (Or.inl ⟨by rfl, ?_⟩) (by assumption) ?_
    rotate_left
    · intro w hSw; (try dsimp only at hSw); go_simp; (try with_reducible rfl)
    (try simp only [List.getElem_toArray, List.getElem_cons_succ, List.getElem_cons_zero, Act.put, List.setIfInBounds_toArray, List.set_cons_zero, List.set_cons_succ])
    refine wpAnyH_take (i := 17) (v := ?_) rfl (by kernel_rfl) (by kernel_rfl) (by kernel_rfl) (fun _ _ _ h => h) (Or.inl ⟨by rfl, ?_⟩) (by assumption) ?_
    rotate_left
    · intro w hSw; (try dsimp only at hSw); go_simp; (try with_reducible rfl)
    (try simp only [List.getElem_toArray, List.getElem_cons_succ, List.getElem_cons_zero, Act.put, List.setIfInBounds_toArray, List.set_cons_zero, List.set_cons_succ])
    refine wpAnyH_take (i := 18) (v := ?_) rfl (by kernel_rfl) (by kernel_rfl) (by kernel_rfl) (fun _ _ _ h => h) (Or.inl ⟨by rfl, ?_⟩) (by assumption) ?_
    rotate_left
    · intro w hSw; (try dsimp only at hSw); go_simp; (try with_reducible rfl)
    (try simp only [List.getElem_toArray, List.getElem_cons_succ, List.getElem_cons_zero, Act.put, List.setIfInBounds_toArray, List.set_cons_zero, List.set_cons_succ])
    refine wpAnyH_take (i := 19) (v := ?_) rfl (by kernel_rfl) (by kernel_rfl) (by kernel_rfl) (fun _ _ _ h => h) (Or.inl ⟨by rfl, ?_⟩) (by assumption) ?_
    rotate_left
    · intro w hSw; (try dsimp only at hSw); go_simp; (try with_reducible rfl)
    (try simp only [List.getElem_toArray, List.getElem_cons_succ, List.getElem_cons_zero, Act.put, List.setIfInBounds_toArray, List.set_cons_zero, List.set_cons_succ])
    refine wpAnyH_take (i := 20) (v := ?_) rfl (by kernel_rfl) (by kernel_rfl) (by kernel_rfl) (fun _ _ _ h => h) (Or.inl ⟨by rfl, ?_⟩) (by assumption) ?_
    rotate_left
    · intro w hSw; (try dsimp only at hSw); go_simp; (try with_reducible rfl)
    (try simp only [List.getElem_toArray, List.getElem_cons_succ, List.getElem_cons_zero, Act.put, List.setIfInBounds_toArray, List.set_cons_zero, List.set_cons_succ])
    refine wpAnyH_take (i := 22) (v := ?_) rfl (by kernel_rfl) (by kernel_rfl) (by kernel_rfl) (fun _ _ _ h => h) (Or.inl ⟨by rfl, ?_⟩) (by assumption) ?_
    rotate_left
    · intro w hSw; (try dsimp only at hSw); go_simp; (try with_reducible rfl)
    (try simp only [List.getElem_toArray, List.getElem_cons_succ, List.getElem_cons_zero, Act.put, List.setIfInBounds_toArray, List.set_cons_zero, List.set_cons_succ])
    refine wpAnyH_take (i := 23) (v := ?_) rfl (by kernel_rfl) (by kernel_rfl) (by kernel_rfl) (fun _ _ _ h => h) (Or.inl ⟨by rfl, ?_⟩) (by assumption) ?_
    rotate_left
    · intro w hSw; (try dsimp only at hSw); go_simp; (try with_reducible rfl)
    (try simp only [List.getElem_toArray, List.getElem_cons_succ, List.getElem_cons_zero, Act.put, List.setIfInBounds_toArray, List.set_cons_zero, List.set_cons_succ])
    refine wpAnyH_take (i := 24) (v := ?_) rfl (by kernel_rfl) (by kernel_rfl) (by kernel_rfl) (fun _ _ _ h => h) (Or.inl ⟨by rfl, ?_⟩) (by assumption) ?_
    rotate_left
    · intro w hSw; (try dsimp only at hSw); go_simp; (try with_reducible rfl)
    (try simp only [List.getElem_toArray, List.getElem_cons_succ, List.getElem_cons_zero, Act.put, List.setIfInBounds_toArray, List.set_cons_zero, List.set_cons_succ])
    refine wpAnyH_take (i := 25) (v := ?_) rfl (by kernel_rfl) (by kernel_rfl) (by kernel_rfl) (fun _ _ _ h => h) (Or.inl ⟨by rfl, ?_⟩) (by assumption) ?_
    rotate_left
    · intro w hSw; (try dsimp only at hSw); go_simp; (try with_reducible rfl)
    (try simp only [List.getElem_toArray, List.getElem_cons_succ, List.getElem_cons_zero, Act.put, List.setIfInBounds_toArray, List.set_cons_zero, List.set_cons_succ])
    refine wpAnyH_take (i := 26) (v := ?_) rfl (by kernel_rfl) (by kernel_rfl) (by kernel_rfl) (fun _ _ _ h => h) (Or.inl ⟨by rfl, ?_⟩) (by assumption) ?_
    rotate_left
    · intro w hSw; (try dsimp only at hSw); go_simp; (try with_reducible rfl)
    (try simp only [List.getElem_toArray, List.getElem_cons_succ, List.getElem_cons_zero, Act.put, List.setIfInBounds_toArray, List.set_cons_zero, List.set_cons_succ])
    refine' wpAnyH_take (i := 27) (v := _) rfl (by kernel_rfl) (by kernel_rfl) (by kernel_rfl) (fun _ _ _ h => h) (yieldsIf_load_mid (by rfl) _ _ rfl _ _ rfl _ _ ?hSb27 ?hub27 ?hdb27 ?hib27) (by assumption) ?restb1
    case hSb27 => (intro w hSw; (try dsimp only at hSw); go_split_ands; assumption)
    case hub27 => assumption
    case hdb27 => rfl
    case hib27 => first | assumption | (simp only [*]; done)
    (try simp only [List.getElem_toArray, List.getElem_cons_succ, List.getElem_cons_zero, Act.put, List.setIfInBounds_toArray, List.set_cons_zero, List.set_cons_succ])
    refine wpAnyH_ready (rs := [21]) (by kernel_rfl) (by simp) ?_
    refine AllReadyH.cons rfl (fun K hK => ?_) ?_
    rotate_left
    · exact AllReadyH.nil
    go_simp
    go_at_call 28
    refine (treeValue_ok (fun b => b < B0) dt' _ q x (Htx.out.below (on_drew (Below.refl _ _)))).mono ?_
    rintro e wn1 ⟨rfl, hbn⟩
    have Hb1 := Lib.hid hbn
    have Hk1 := Lib.hid (below_on (show Below w2.heap.size w2 w2.drew from on_drew (Below.refl _ _)) hbn)
    clear hbn
    (try go_wp2_with fail)
    refine hK.out _ _ ?_ (fun hHeld => ?_)
    · (try dsimp only); (first | exact HS.out _ Hk3.out | exact HS.out _ Hk2.out | exact HS.out _ Hk1.out | exact HS.out _ (on_drew (Below.refl _ _)) | exact HS.out _ (Below.refl _ _))
    clear hK K
    (try simp only [List.getElem_toArray, List.getElem_cons_succ, List.getElem_cons_zero, Act.put, List.setIfInBounds_toArray, List.set_cons_zero, List.set_cons_succ])
    refine wpAnyH_take (i := 28) (v := ?_) rfl (by kernel_rfl) (by kernel_rfl) (by kernel_rfl) (fun _ _ _ h => h) (Or.inl ⟨by rfl, ?_⟩) (by assumption) ?_
    rotate_left
    · intro w hSw; (try dsimp only at hSw); go_simp; (try with_reducible rfl)
    (try simp only [List.getElem_toArray, List.getElem_cons_succ, List.getElem_cons_zero, Act.put, List.setIfInBounds_toArray, List.set_cons_zero, List.set_cons_succ])
    refine wpAnyH_take (i := 29) (v := ?_) rfl (by kernel_rfl) (by kernel_rfl) (by kernel_rfl) (fun _ _ _ h => h) (Or.inl ⟨by rfl, ?_⟩) (by assumption) ?_
    rotate_left
    · intro w hSw; (try dsimp only at hSw); go_simp; (try with_reducible rfl)
    (try simp only [List.getElem_toArray, List.getElem_cons_succ, List.getElem_cons_zero, Act.put, List.setIfInBounds_toArray, List.set_cons_zero, List.set_cons_succ])
    refine wpAnyH_take (i := 30) (v := ?_) rfl (by kernel_rfl) (by kernel_rfl) (by kernel_rfl) (fun _ _ _ h => h) (Or.inl ⟨by rfl, ?_⟩) (by assumption) ?_
    rotate_left
    · intro w hSw; (try dsimp only at hSw); go_simp; (try with_reducible rfl)
    (try simp only [List.getElem_toArray, List.getElem_cons_succ, List.getElem_cons_zero, Act.put, List.setIfInBounds_toArray, List.set_cons_zero, List.set_cons_succ])
    refine wpAnyH_take (i := 31) (v := ?_) rfl (by kernel_rfl) (by kernel_rfl) (by kernel_rfl) (fun _ _ _ h => h) (Or.inl ⟨by rfl, ?_⟩) (by assumption) ?_
    rotate_left
    · intro w hSw; (try dsimp only at hSw); go_simp; (try with_reducible rfl)
    (try simp only [List.getElem_toArray, List.getElem_cons_succ, List.getElem_cons_zero, Act.put, List.setIfInBounds_toArray, List.set_cons_zero, List.set_cons_succ])
    refine wpAnyH_take (i := 33) (v := ?_) rfl (by kernel_rfl) (by kernel_rfl) (by kernel_rfl) (fun _ _ _ h => h) (Or.inl ⟨by rfl, ?_⟩) (by assumption) ?_
    rotate_left
    · intro w hSw; (try dsimp only at hSw); go_simp; (try with_reducible rfl)
    (try simp only [List.getElem_toArray, List.getElem_cons_succ, List.getElem_cons_zero, Act.put, List.setIfInBounds_toArray, List.set_cons_zero, List.set_cons_succ])
    refine wpAnyH_take (i := 34) (v := ?_) rfl (by kernel_rfl) (by kernel_rfl) (by kernel_rfl) (fun _ _ _ h => h) (Or.inl ⟨by rfl, ?_⟩) (by assumption) ?_
    rotate_left
    · intro w hSw; (try dsimp only at hSw); go_simp; (try with_reducible rfl)
    (try simp only [List.getElem_toArray, List.getElem_cons_succ, List.getElem_cons_zero, Act.put, List.setIfInBounds_toArray, List.set_cons_zero, List.set_cons_succ])
    refine wpAnyH_take (i := 35) (v := ?_) rfl (by kernel_rfl) (by kernel_rfl) (by kernel_rfl) (fun _ _ _ h => h) (Or.inl ⟨by rfl, ?_⟩) (by assumption) ?_
    rotate_left
    · intro w hSw; (try dsimp only at hSw); go_simp; (try with_reducible rfl)
    (try simp only [List.getElem_toArray, List.getElem_cons_succ, List.getElem_cons_zero, Act.put, List.setIfInBounds_toArray, List.set_cons_zero, List.set_cons_succ])
    refine wpAnyH_take (i := 36) (v := ?_) rfl (by kernel_rfl) (by kernel_rfl) (by kernel_rfl) (fun _ _ _ h => h) (Or.inl ⟨by rfl, ?_⟩) (by assumption) ?_
    rotate_left
    · intro w hSw; (try dsimp only at hSw); go_simp; (try with_reducible rfl)
    (try simp only [List.getElem_toArray, List.getElem_cons_succ, List.getElem_cons_zero, Act.put, List.setIfInBounds_toArray, List.set_cons_zero, List.set_cons_succ])
    refine' wpAnyH_take (i := 37) (v := _) rfl (by kernel_rfl) (by kernel_rfl) (by kernel_rfl) (fun _ _ _ h => h) (yieldsIf_load_mid (by rfl) _ _ rfl _ _ rfl _ _ ?hSb37 ?hub37 ?hdb37 ?hib37) (by assumption) ?restb2
    case hSb37 => (intro w hSw; (try dsimp only at hSw); go_split_ands; assumption)
    case hub37 => assumption
    case hdb37 => rfl
    case hib37 => first | assumption | (simp only [*]; done)
    (try simp only [List.getElem_toArray, List.getElem_cons_succ, List.getElem_cons_zero, Act.put, List.setIfInBounds_toArray, List.set_cons_zero, List.set_cons_succ])
    refine wpAnyH_ready (rs := [32]) (by kernel_rfl) (by simp) ?_
    refine AllReadyH.cons rfl (fun K hK => ?_) ?_
    rotate_left
    · exact AllReadyH.nil
    go_simp
    go_at_call 29
    refine (treeCount_ok (fun b => b < B0) dt' _ q x ((Htx.out.below (on_drew (Below.refl _ _))).below Hb1.out)).mono ?_
    rintro e wn2 ⟨rfl, hw⟩
    obtain rfl := hw.symm
    have Hk2 := Lib.hid Hk1.out
    (try go_wp2_with fail)
    refine hK.out _ _ ?_ (fun hHeld => ?_)
    · (try dsimp only); (first | exact HS.out _ Hk3.out | exact HS.out _ Hk2.out | exact HS.out _ Hk1.out | exact HS.out _ (on_drew (Below.refl _ _)) | exact HS.out _ (Below.refl _ _))
    clear hK K
    (try simp only [List.getElem_toArray, List.getElem_cons_succ, List.getElem_cons_zero, Act.put, List.setIfInBounds_toArray, List.set_cons_zero, List.set_cons_succ])
    refine wpAnyH_ready (rs := [38]) (by kernel_rfl) (by simp) ?_
    refine AllReadyH.cons rfl (fun K hK => ?_) ?_
    rotate_left
    · exact AllReadyH.nil
    go_simp
    go_at_call 30
    refine (refCount_ok (fun b => b < B0) d' _ x a' c' (Hnx.out.below Hk1.out) Hxp.out Hxk.out).mono ?_
    rintro e wn3 ⟨rfl, hbn⟩
    have Hk3 := Lib.hid (below_on Hk1.out hbn)
    clear hbn
    (try go_wp2_with fail)
    refine hK.out _ _ ?_ (fun hHeld => ?_)
    · (try dsimp only); (first | exact HS.out _ Hk3.out | exact HS.out _ Hk2.out | exact HS.out _ Hk1.out | exact HS.out _ (on_drew (Below.refl _ _)) | exact HS.out _ (Below.refl _ _))
    clear hK K
    (try simp only [List.getElem_toArray, List.getElem_cons_succ, List.getElem_cons_zero, Act.put, List.setIfInBounds_toArray, List.set_cons_zero, List.set_cons_succ])
    refine wpAnyH_take (i := 39) (v := ?_) rfl (by kernel_rfl) (by kernel_rfl) (by kernel_rfl) (fun _ _ _ h => h) (Or.inl ⟨by rfl, ?_⟩) (by assumption) ?_
    rotate_left
    · intro w hSw; (try dsimp only at hSw); go_simp; (try with_reducible rfl)
    (try simp only [List.getElem_toArray, List.getElem_cons_succ, List.getElem_cons_zero, Act.put, List.setIfInBounds_toArray, List.set_cons_zero, List.set_cons_succ])
    refine wpAnyH_take (i := 40) (v := ?_) rfl (by kernel_rfl) (by kernel_rfl) (by kernel_rfl) (fun _ _ _ h => h) (Or.inl ⟨by rfl, ?_⟩) (by assumption) ?_
    rotate_left
    · intro w hSw; (try dsimp only at hSw); go_simp; (try with_reducible rfl)
    (try simp only [List.getElem_toArray, List.getElem_cons_succ, List.getElem_cons_zero, Act.put, List.setIfInBounds_toArray, List.set_cons_zero, List.set_cons_succ])
    refine wpAnyH_ready (rs := [41]) (by kernel_rfl) (by simp) ?_
    refine AllReadyH.cons rfl (fun K hK => ?_) ?_
    rotate_left
    · exact AllReadyH.nil
    obtain ⟨e1, e2, _⟩ := HS.out _ Hk3.out
    go_simp
    have hu9 : Upd (fun b => b = bok) wn3 (wn3.setCell ⟨bok, 0, none⟩ (.bool true)) := (Upd.refl _ _).setCell _ _ (fun _ => rfl)
    have hset := heap_setCell_same wn3 bok 0 _ _ (.bool true) ((Hk3.out.block bok hokl).trans HS0.out.1)
    simp at hset
    refine hK.out _ _ ?_ (fun hHeld => ?_)
    · obtain ⟨q1, q2, q3, q4, q5, q6, q7, q8⟩ := HS.out _ Hk3.out
      exact ⟨cell1 hset, frozen_of_row _ _ _ _ _ hset, hu9.cell q3 hne.1, hu9.cell q4 hne.2.1, hu9.cell q5 hne.2.2.1, hu9.cell q6 hne.2.2.2.1, rangeAt_kept q7 hu9 hne.2.2.2.2, rangeAt_kept q8 hu9 hne.2.2.2.2⟩
    clear hK K
    (try simp only [List.getElem_toArray, List.getElem_cons_succ, List.getElem_cons_zero, Act.put, List.setIfInBounds_toArray, List.set_cons_zero, List.set_cons_succ])
    refine wpAnyH_done (by kernel_rfl) ?_ _
    refine NoPanic.normal ?_
    have hi9 := hu9.at_ ((Hk3.out.block bi (lt_heap HS0.out.2)).trans HS0.out.2) hne.1
    have Hu9 := Lib.hid (show Upd (fun b => b = bok ∨ b = bi) W (wn3.setCell ⟨bok, 0, none⟩ (.bool true)) from ((Hu4.out.mono (fun b _ hb => .inl hb)).then (Upd.below Hk3.out (fun _ => False)) (fun k _ hk => hk.elim)).then hu9 (fun k _ hk => .inl hk))
    generalize wn3.setCell ⟨bok, 0, none⟩ (.bool true) = w9 at hset hi9 hHeld Hu9 ⊢
    have f0 := cell1 hi9
    have z0 := frozen_of_row _ bi 0 _ _ hi9
    have hu10 : Upd (fun b => b = bi) w9 (w9.setCell ⟨bi, 0, none⟩ (.int .i64 ((i : Int) + 1))) := (Upd.refl _ _).setCell _ _ (fun _ => rfl)
    have hset2 := heap_setCell_same w9 bi 0 _ _ (.int .i64 ((i : Int) + 1)) hi9
    simp at hset2
    have hok2 := hu10.at_ hset (fun e => hne.1 e.symm)
    have f1 := cell1 hok2
    have ew : IntKind.i64.wrap ((i : Int) + 1) = (i : Int) + 1 := IntWalk.i64_in _ (by omega)
    have Hset2 := Lib.hid hset2
    have Hok2 := Lib.hid hok2
    have Hu10 := Lib.hid (Hu9.out.then hu10 (fun k _ hk => .inr hk))
    clear hset2 hok2 hu10 hset hi9 hHeld
    go_wp2
    go_ret
    exact ⟨rfl, Hok2.out, by rw [show ((i + 1 : Nat) : Int) = (i : Int) + 1 by omega]; exact Hset2.out, Hu10.out⟩
end Go.Proofs.Ythnbinlllmkabaa
