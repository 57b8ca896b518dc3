/- What a round of a tree's node keeps. -/
import Derived.Test.YthnbinlllmkabaaIter
import Derived.Test.YthnbinlllmkabaaSpoil
import Derived.Test.YthnbinlllmkabaaOb
namespace Go.Proofs.Ythnbinlllmkabaa
open Go.RowKit
set_option linter.unusedVariables false
set_option linter.unusedSimpArgs false

def CellBlk (w : World) (b : Nat) : Prop := ∃ cs t fr, w.heap[b]? = some (.cells cs t fr)
theorem CellBlk.of_cell {w : World} {b o : Nat} {v : Value} (h : w.cell? ⟨b, o, none⟩ = some v) : CellBlk w b := by
  unfold World.cell? at h
  dsimp only at h
  cases hb : w.heap[b]? with
  | none => rw [hb] at h; cases h
  | some x =>
    rw [hb] at h
    cases x with
    | cells cs t fr => exact ⟨cs, t, fr, hb⟩
    | _ => cases h
theorem KidsIn.cellsy {w : World} {F : Nat → Prop} : ∀ (d : Nat) (a : Option Addr) (ks : List Nd), KidsIn w F d a ks → KidsIn w (fun b => F b ∧ CellBlk w b) d a ks
  | 0, _, _, h => h
  | d + 1, a, ks, h => fun i k hk => by
    obtain ⟨g, off, a', c', h1, h2, h3, h4, h5, h6, h7, h8⟩ := h i k hk
    exact ⟨g, off, a', c', h1, ⟨h2, CellBlk.of_cell (h3 0 _ rfl)⟩, h3, h4, h5, h6, h7, KidsIn.cellsy d a' k.kids h8⟩
theorem not_turned {W : World} {row : Option Nat} (hr : ∀ r, row = some r → ∃ o : Obj, W.heap[r]? = some o ∧ o.isCells = false) {b : Nat} (hc : CellBlk W b) : row ≠ some b := by
  intro e
  obtain ⟨o, h1, h2⟩ := hr b e
  obtain ⟨cs, t, fr, h3⟩ := hc
  rw [h3] at h1
  cases h1
  cases h2
theorem KidsIn.turn {W W' : World} {row : Option Nat} (hg : W.grownBy W' row) (hr : ∀ r, row = some r → ∃ o : Obj, W.heap[r]? = some o ∧ o.isCells = false) {F : Nat → Prop} {d : Nat} {a : Option Addr} {ks : List Nd} (h : KidsIn W F d a ks) : KidsIn W' F d a ks := by
  have u : Upd (fun b => row = some b) W W' := Upd.grown (Upd.refl _ W) hg (fun k hk _ => hk)
  exact KidsIn.mono (fun b hb _ => hb.1) d a _ (KidsIn.kept u (fun b hb hS => not_turned hr hb.2 hS) d a _ (KidsIn.cellsy d a _ h))
theorem NodesIn.turn {W W' : World} {row : Option Nat} (hg : W.grownBy W' row) (hr : ∀ r, row = some r → ∃ o : Obj, W.heap[r]? = some o ∧ o.isCells = false) {F : Nat → Prop} {d : Nat} {ks : List Nd} {al : List (Option Addr × Nat)} (h : NodesIn W F d ks al) : NodesIn W' F d ks al := by
  have u : Upd (fun b => row = some b) W W' := Upd.grown (Upd.refl _ W) hg (fun k hk _ => hk)
  refine ⟨h.1, fun i k a c h1 h2 => ?_⟩
  have := h.2 i k a c h1 h2
  exact ⟨this.vwf, this.mwf, this.nsz, this.ksz, KidsIn.mono (fun b hb _ => hb.1) d a _ (KidsIn.kept u (fun b hb hS => not_turned hr hb.2 hS) d a _ (KidsIn.cellsy d a _ this.kids))⟩
/-- Written over at its end. -/
theorem Own.over {e : TypeId} {size n c g off : Nat} : ∀ (vs : List Value) (A Z : List Value) (w : World), vs.length = Z.length → Own w e size (.slice (some ⟨g, off, none⟩) n c) n (A ++ Z) → Own (w.setCells g (off + A.length) vs) e size (.slice (some ⟨g, off, none⟩) n c) n (A ++ vs)
  | [], A, Z, w, hl, h => by
    have : Z = [] := List.length_eq_zero_iff.1 hl.symm
    subst this
    exact h
  | v :: vs, A, [], w, hl, h => by simp at hl
  | v :: vs, A, z :: Z, w, hl, h => by
    have hj : A.length < n * size := by have := h.1; simp at this; omega
    have h1 := h.set A.length v hj
    have e1 : (A ++ z :: Z).set A.length v = (A ++ [v]) ++ Z := by
      rw [List.set_append_right _ _ (Nat.le_refl _), Nat.sub_self, List.set_cons_zero]; simp
    rw [e1] at h1
    have h2 := Own.over vs (A ++ [v]) Z _ (by simpa using hl) h1
    rw [World.setCells]
    simpa [Nat.add_assoc] using h2
theorem nrow_set40 (s : ByteArray) (v : Vl) (m : Mk × Mk) (k k' : Value) (h : v.wf) : (nrow s v m k).toArray.setIfInBounds 40 k' = (nrow s v m k').toArray := by
  have hl := v.cells_length h
  apply Array.ext'
  rw [Array.toList_setIfInBounds]
  show (.string s :: (v.cells ++ (mcells m ++ [k]))).set (39 + 1) k' = .string s :: (v.cells ++ (mcells m ++ [k']))
  rw [List.set_cons_succ, List.set_append_right _ _ (by omega), hl]
  rfl
/-- What stands between two rounds. -/
structure NodeSt (w4 W : World) (B d : Nat) (nm : ByteArray) (v : Vl) (mm : Mk × Mk) (k : Nat) (a3 : Option Addr) (c3 : Nat) (ks : List Nd) (al : List (Option Addr × Nat)) : Prop where
  row : W.heap[B]? = some (.cells (nrow nm v mm (.slice a3 k c3)).toArray 30 (0, 0))
  st : CopySt w4 W d k a3 c3 ks al
  upd : Upd (fun b => b = B ∨ w4.heap.size ≤ b) w4 W
section
variable {w4 W : World} {B d : Nat} {nm : ByteArray} {v : Vl} {mm : Mk × Mk} {k : Nat} {a3 : Option Addr} {c3 : Nat} {ks : List Nd} {al : List (Option Addr × Nat)}
theorem NodeSt.turn (h : NodeSt w4 W B d nm v mm k a3 c3 ks al) {W' : World} {row : Option Nat} (hg : W.grownBy W' row) (hr : ∀ r, row = some r → w4.heap.size ≤ r ∧ ∃ o : Obj, W.heap[r]? = some o ∧ o.isCells = false) : NodeSt w4 W' B d nm v mm k a3 c3 ks al := by
  have u : Upd (fun b => row = some b) W W' := Upd.grown (Upd.refl _ W) hg (fun k hk _ => hk)
  have hr' : ∀ r, row = some r → ∃ o : Obj, W.heap[r]? = some o ∧ o.isCells = false := fun r e => (hr r e).2
  refine ⟨u.at_ h.row (not_turned hr' ⟨_, _, _, h.row⟩), ⟨h.st.out.kept u (fun b hb => ?_), h.st.nodes.turn hg hr', h.st.n3⟩, h.upd.then u (fun i _ hi => .inr (hr i hi).1)⟩
  obtain ⟨cur, hc⟩ := h.st.out.typed (by rw [← own_ob a3 k c3]; exact hb)
  exact not_turned hr' ⟨_, _, _, hc⟩
theorem NodeSt.next (h : NodeSt w4 W B d nm v mm k a3 c3 ks al) (hB : B < w4.heap.size) {w9 : World} (u : Upd (fun b => b = B ∨ ob a3 = some b) W w9) {x : Nd} {a' a4 : Option Addr} {c' c4 : Nat} (hx : NodeIn w9 (fun b => W.heap.size ≤ b ∧ ob a4 ≠ some b) d x a')
    (ho : Own w9 30 41 (.slice a4 (k + 1) c4) (k + 1) (rowsOf ks al ++ x.row a' c')) (hn : ∀ b, ob a4 = some b → ob a3 = some b ∨ W.heap.size ≤ b) (hr : w9.heap[B]? = some (.cells (nrow nm v mm (.slice a4 (k + 1) c4)).toArray 30 (0, 0))) :
    NodeSt w4 w9 B d nm v mm (k + 1) a4 c4 (ks ++ [x]) (al ++ [(a', c')]) := by
  have hs := h.upd.size
  have n3 : ∀ b, ob a3 = some b → w4.heap.size ≤ b := fun b hb => h.st.n3 b (by rw [own_ob]; exact hb)
  refine ⟨hr, ⟨by rw [rowsOf_append ks al x a' c' h.st.nodes.1]; exact ho, NodesIn.push ?_ c' ?_, fun b hb => ?_⟩, h.upd.then u (fun i _ hi => ?_)⟩
  · have t0 := h.st.nodes.mono (G := fun b => (w4.heap.size ≤ b ∧ ob a3 ≠ some b) ∧ b < W.heap.size) (fun b hb hl => ⟨⟨hb.1, fun e => hb.2 (by rw [own_ob]; exact e)⟩, hl⟩)
    refine (t0.kept u (fun b hb hS => ?_)).mono (fun b hb _ => ⟨hb.1.1, fun e => ?_⟩)
    · rcases hS with rfl | hS
      · have := hb.1.1; omega
      · exact hb.1.2 hS
    · rw [own_ob] at e
      rcases hn b e with h1 | h1
      · exact hb.1.2 h1
      · have := hb.2; omega
  · exact hx.mono (fun b hb _ => ⟨by have := hb.1; omega, fun e => hb.2 (by rw [← own_ob a4 (k + 1) c4]; exact e)⟩)
  · rw [own_ob] at hb
    rcases hn b hb with h1 | h1
    · exact n3 b h1
    · omega
  · rcases hi with rfl | hi
    · exact .inl rfl
    · exact .inr (n3 i hi)
theorem NodeSt.keeps (h : NodeSt w4 W B d nm v mm k a3 c3 ks al) {w9 : World} (u : Upd (fun b => b = B ∨ ob a3 = some b) W w9) (B0 : Nat) : KeepsFrom B0 W w9 := by
  refine ⟨u.size, fun b o _ hb ho => u.at_ hb (fun hS => ?_)⟩
  have hc : CellBlk W b := by
    rcases hS with rfl | hS
    · exact ⟨_, _, _, h.row⟩
    · obtain ⟨cur, hc⟩ := h.st.out.typed hS
      exact ⟨_, _, _, hc⟩
  obtain ⟨cs, t, fr, hc⟩ := hc
  rw [hc] at hb
  cases hb
  cases ho
end
theorem there_own {w : World} {e : TypeId} {size n c g off : Nat} {xs : List Value} (h : Own w e size (.slice (some ⟨g, off, none⟩) n c) n xs) (o m : Nat) (hm : 0 < m) (ho : o + m ≤ n * size) : w.there g (off + o) m := by
  have hx : xs ≠ [] := by intro e; have := h.1; rw [e] at this; simp at this; omega
  obtain ⟨g', off', cap, cur, hv, hg, hs, hn, hc, hf⟩ := h.cells hx
  injection hv with hv
  injection hv with hv
  injection hv with h1 h2
  subst h1 h2
  intro j hj
  rw [Nat.add_assoc]
  refine ⟨?_, hf _⟩
  have hl : o + j < xs.length := by have := h.1; omega
  rw [hc (o + j) xs[o + j] (List.getElem?_eq_getElem hl)]
  rfl
/-- The end of a round: the new row is written, and the list is stored, in either order. -/
theorem node_fin {w4 W : World} {B d : Nat} {nm : ByteArray} {v : Vl} {mm : Mk × Mk} {k : Nat} {a3 : Option Addr} {c3 : Nat} {ks : List Nd} {al : List (Option Addr × Nat)} (h : NodeSt w4 W B d nm v mm k a3 c3 ks al) (hB : B < w4.heap.size) (hv : v.wf) {w6 w7 : World} (hb6 : Below W.heap.size W w6) {gb : Nat} {x : Nd} {ax : Option Addr} {cx : Nat}
    (hx : NodeIn w6 (fun b => W.heap.size ≤ b ∧ gb ≠ b) d x ax) {Z : List Value} (hZ : Z.length = 41) {g off c7 : Nat} (hown7 : Own w7 30 41 (.slice (some ⟨g, off, none⟩) (k + 1) c7) (k + 1) (rowsOf ks al ++ Z)) (hgr7 : w6.grownBy w7 (Value.slice a3 k c3).ownBlock) (hb7 : ob a3 ≠ some g → w6.heap.size ≤ g) :
    w7.there g (off + k * 41) 41 ∧ (w7.heap[B]? = some (.cells (nrow nm v mm (.slice a3 k c3)).toArray 30 (0, 0))) ∧
    ((w7.setCell ⟨B, 40, none⟩ (.slice (some ⟨g, off, none⟩) (k + 1) c7)).there g (off + k * 41) 41) ∧ ((w7.setCells g (off + k * 41) (x.row ax cx)).heap[B]? = some (.cells (nrow nm v mm (.slice a3 k c3)).toArray 30 (0, 0))) ∧
    (∀ w9, (w9 = (w7.setCells g (off + k * 41) (x.row ax cx)).setCell ⟨B, 40, none⟩ (.slice (some ⟨g, off, none⟩) (k + 1) c7) ∨ w9 = (w7.setCell ⟨B, 40, none⟩ (.slice (some ⟨g, off, none⟩) (k + 1) c7)).setCells g (off + k * 41) (x.row ax cx)) →
      Upd (fun b => b = B ∨ ob a3 = some b) W w9 ∧ NodeSt w4 w9 B d nm v mm (k + 1) (some ⟨g, off, none⟩) c7 (ks ++ [x]) (al ++ [(ax, cx)])) := by
  have hs := h.upd.size
  have hxl : (x.row ax cx).length = 41 := row_len hx.vwf
  have hkl : (rowsOf ks al).length = k * 41 := h.st.out.1
  have n3 : ∀ b, ob a3 = some b → w4.heap.size ≤ b ∧ b < W.heap.size := fun b hb => ⟨h.st.n3 b (by rw [own_ob]; exact hb), h.st.out.lt (by rw [own_ob]; exact hb)⟩
  have hBW : B < W.heap.size := by omega
  have hgB : g ≠ B := by
    intro e
    by_cases h1 : ob a3 = some g
    · have := (n3 g h1).1; omega
    · have := hb7 h1; have := hb6.size; omega
  have u67 : Upd (fun b => ob a3 = some b) w6 w7 := Upd.grown (Upd.refl _ w6) hgr7 (fun b hb _ => by rw [own_ob] at hb; exact hb)
  have uW7 : Upd (fun b => b = B ∨ ob a3 = some b) W w7 := (Upd.below hb6 _).then u67 (fun i _ hi => .inr hi)
  have r6 : w6.heap[B]? = some (.cells (nrow nm v mm (.slice a3 k c3)).toArray 30 (0, 0)) := (hb6.block B hBW).trans h.row
  have r7 := u67.at_ r6 (fun hS => by have := (n3 B hS).1; omega)
  have hx7 : NodeIn w7 (fun b => W.heap.size ≤ b ∧ g ≠ b) d x ax := by
    have t0 := hx.mono (G := fun b => (W.heap.size ≤ b ∧ gb ≠ b) ∧ b < w6.heap.size) (fun b hb hl => ⟨hb, hl⟩)
    refine (t0.kept u67 (fun b hb hS => by have := (n3 b hS).2; omega)).mono (fun b hb _ => ⟨hb.1.1, fun e => ?_⟩)
    subst e
    by_cases h1 : ob a3 = some g
    · have := (n3 g h1).2; have := hb.1.1; omega
    · have := hb7 h1; have := hb.2; omega
  have ht : w7.there g (off + k * 41) 41 := there_own hown7 (k * 41) 41 (by omega) (by omega)
  have ua : ∀ w (u : Value), Upd (fun b => b = B) w (w.setCell ⟨B, 40, none⟩ u) := fun w u => (Upd.refl _ w).setCell _ _ (fun _ => rfl)
  have ub : ∀ w, Upd (fun b => b = g) w (w.setCells g (off + k * 41) (x.row ax cx)) := fun w => Upd.setCells (S := fun b => b = g) g rfl _ _ w (Upd.refl _ w)
  have hgW : W.heap.size ≤ g ∨ ob a3 = some g := by
    by_cases h1 : ob a3 = some g
    · exact .inr h1
    · have := hb7 h1; have := hb6.size; exact .inl (by omega)
  have hownA : Own (w7.setCells g (off + k * 41) (x.row ax cx)) 30 41 (.slice (some ⟨g, off, none⟩) (k + 1) c7) (k + 1) (rowsOf ks al ++ x.row ax cx) := by
    have := Own.over (x.row ax cx) (rowsOf ks al) Z w7 (by rw [hxl, hZ]) hown7
    rw [hkl] at this
    exact this
  have hownB : Own (w7.setCell ⟨B, 40, none⟩ (.slice (some ⟨g, off, none⟩) (k + 1) c7)) 30 41 (.slice (some ⟨g, off, none⟩) (k + 1) c7) (k + 1) (rowsOf ks al ++ Z) := hown7.kept (ua _ _) (fun b hb => by
    have : g = b := by simpa [Value.ownBlock] using hb
    subst this; exact hgB)
  have r8 := (ub w7).at_ r7 (fun e => hgB e.symm)
  refine ⟨ht, r7, there_own hownB (k * 41) 41 (by omega) (by omega), r8, fun w9 h9 => ?_⟩
  have hnn : ∀ b, ob (some (⟨g, off, none⟩ : Addr)) = some b → ob a3 = some b ∨ W.heap.size ≤ b := fun b hb => by
    have : g = b := by simpa [ob] using hb
    subst this
    exact hgW.symm
  have key : Upd (fun b => b = B ∨ b = g) w7 w9 ∧ Own w9 30 41 (.slice (some ⟨g, off, none⟩) (k + 1) c7) (k + 1) (rowsOf ks al ++ x.row ax cx) ∧ w9.heap[B]? = some (.cells (nrow nm v mm (.slice (some ⟨g, off, none⟩) (k + 1) c7)).toArray 30 (0, 0)) := by
    rcases h9 with rfl | rfl
    · refine ⟨((ub w7).mono (fun b _ hb => .inr hb)).trans ((ua _ _).mono (fun b _ hb => .inl hb)), hownA.kept (ua _ _) (fun b hb => by
        have : g = b := by simpa [Value.ownBlock] using hb
        subst this; exact hgB), ?_⟩
      have := heap_setCell_same _ B 40 _ _ (.slice (some ⟨g, off, none⟩) (k + 1) c7) r8
      rwa [nrow_set40 nm v mm _ _ hv] at this
    · refine ⟨((ua _ _).mono (fun b _ hb => .inl hb)).trans ((ub _).mono (fun b _ hb => .inr hb)), ?_, ?_⟩
      · have := Own.over (x.row ax cx) (rowsOf ks al) Z _ (by rw [hxl, hZ]) hownB
        rw [hkl] at this
        exact this
      · have := heap_setCell_same _ B 40 _ _ (.slice (some ⟨g, off, none⟩) (k + 1) c7) r7
        rw [nrow_set40 nm v mm _ _ hv] at this
        exact (ub _).at_ this (fun e => hgB e.symm)
  obtain ⟨u79, ho9, r9⟩ := key
  have uW9 : Upd (fun b => b = B ∨ ob a3 = some b) W w9 := uW7.then u79 (fun i hi hS => by
    rcases hS with rfl | rfl
    · exact .inl rfl
    · rcases hgW with h1 | h1
      · omega
      · exact .inr h1)
  refine ⟨uW9, h.next hB uW9 ((hx7.kept u79 (fun b hb hS => ?_)).mono (fun b hb _ => ⟨hb.1, fun e => hb.2 (by simpa [ob] using e)⟩)) ho9 hnn r9⟩
  rcases hS with rfl | rfl
  · have := hb.1; omega
  · exact hb.2 rfl
end Go.Proofs.Ythnbinlllmkabaa
