/- A thing with what is below it, told by numbers: walked. (Written by gen_wood.py.) -/
import Derived.Test.YthnbinlllmkabaaWoodP
import Derived.Test.YthnbinlllmkabaaTurn
import Derived.Test.YthnbinlllmkabaaBuild
import Derived.Deep.CutBlock
namespace Go.Proofs.Ythnbinlllmkabaa
open Go.RowKit
set_option linter.unusedVariables false
set_option linter.unusedSimpArgs false

theorem store_midW {P : Program} {ops : Array Oper} {rest : List Oper} {op : Oper} {a : Act} {w : World} {Q : Exit → Act → World → Prop} (hgd : op.guard = none) (ty : TypeId) (x y : Operand) (ho : op.op = .store ty x y)
    (b o : Nat) (cells : Array Value) (hx : a.eval x = .pointer (some ⟨b, o, none⟩)) (hy : a.eval y = .agg cells)
    (ht : w.there b o cells.size) (hi : (P.info? ty).map (·.size) = some cells.size) (h1 : cells.all (·.oneCell') = true)
    (h : ∀ w', w' = w.setCells b o cells.toList → wpList P ops Q rest (a.put op.dst undef) w') : wpList P ops Q (op :: rest) a w :=
  wpList_store_mid hgd ty x y ho b o cells hx hy ht hi h1 (h _ rfl)
theorem store_rowW {P : Program} {ops : Array Oper} {rest : List Oper} {o : Oper} {a : Act} {w : World} {Q : Exit → Act → World → Prop} (hgd : o.guard = none) (ty : TypeId) (x y : Operand) (ho : o.op = .store ty x y)
    (g : Nat) (cells : Array Value) (hx : a.eval x = .pointer (some ⟨g, 0, none⟩)) (hy : a.eval y = .agg cells)
    (t : TypeId) (old : Array Value) (hg : w.heap[g]? = some (.cells old t (0, 0))) (hi : (P.info? ty).map (·.size) = some cells.size)
    (hold : old.size = cells.size) (h1 : cells.all (·.oneCell') = true)
    (h : ∀ w' : World, w'.heap[g]? = some (.cells cells t (0, 0)) → Upd (fun b => b = g) w w' → wpList P ops Q rest (a.put o.dst undef) w') : wpList P ops Q (o :: rest) a w :=
  wpList_store_row hgd ty x y ho g cells hx hy t old hg hi hold h1 (h _ (setRow_heap w g old cells t (0, 0) hg) (Upd.setRow (Upd.refl _ w) g cells rfl))
theorem store_freshW {P : Program} {ops : Array Oper} {rest : List Oper} {o : Oper} {a : Act} {Q : Exit → Act → World → Prop} {w0 : World} {old : Array Value} {t : TypeId} (hgd : o.guard = none) (ty : TypeId) (x y : Operand) (ho : o.op = .store ty x y)
    (g : Nat) (hg : w0.heap.size = g) (cells : Array Value) (hx : a.eval x = .pointer (some ⟨g, 0, none⟩)) (hy : a.eval y = .agg cells) (hi : (P.info? ty).map (·.size) = some cells.size) (hold : old.size = cells.size) (h1 : cells.all (·.oneCell') = true)
    (h : ∀ w2 : World, w2.heap.size = g + 1 → w2.heap[g]? = some (.cells cells t (0, 0)) → Below w0.heap.size w0 w2 → wpList P ops Q rest (a.put o.dst undef) w2) :
    wpList P ops Q (o :: rest) a (w0.alloc (.cells old t)) := by
  subst hg
  exact wpList_store_fresh hgd ty x y ho cells hx hy hi hold h1 h
/-- A thing without children; a directory. -/
def leafN (v : Vl) (m : Mk × Mk) : Nd := .mk ⟨#[]⟩ v m []
def dirN (v : Vl) (ks : List Nd) : Nd := .mk ⟨#[]⟩ v noMk ks
theorem dirN_row (v : Vl) : (dirN v []).row none 0 = (leafN v noMk).row none 0 := rfl
theorem dir_set40 (v : Vl) (ks ks' : List Nd) (k' : Nat) (hk : ks'.length = k') (a a' : Option Addr) (c c' : Nat) (h : v.wf) : ((dirN v ks).row a c).toArray.setIfInBounds 40 (.slice a' k' c') = ((dirN v ks').row a' c').toArray := by
  have hl := v.cells_length h
  subst hk
  apply Array.ext'
  rw [Array.toList_setIfInBounds]
  show (.string ⟨#[]⟩ :: (v.cells ++ (mcells noMk ++ [Value.slice a ks.length c]))).set (39 + 1) _ = _
  rw [List.set_cons_succ, List.set_append_right _ _ (by omega), hl]
  rfl
theorem bldW1 (r : Int) (w : World) : (Instr.build 24 #[(0, .int .i64 1), (1, .int .i64 r)]).run Try.prog w = .ok (.agg (Vl.mk 1 r 0 zeros).cells.toArray) w := run_build w _ _ _ (by kernel_rfl)
theorem bldW2 (r z : Int) (w : World) : (Instr.build 24 #[(0, .int .i64 2), (1, .int .i64 r), (2, .int .i64 z)]).run Try.prog w = .ok (.agg (Vl.mk 2 r z zeros).cells.toArray) w := run_build w _ _ _ (by kernel_rfl)
theorem bldW3 (z : Int) (w : World) : (Instr.build 24 #[(0, .int .i64 3), (2, .int .i64 z)]).run Try.prog w = .ok (.agg (Vl.mk 3 0 z zeros).cells.toArray) w := run_build w _ _ _ (by kernel_rfl)
theorem bldWM (x y : Int) (w : World) : (Instr.build 26 #[(0, .int .i64 x), (1, .int .i64 y)]).run Try.prog w = .ok (.agg #[.int .i64 x, .int .i64 y]) w := run_build w _ _ _ (by kernel_rfl)
theorem bldWN (v : Vl) (hv : v.sum.length = 32) (w : World) : (Instr.build 30 #[(1, .agg v.cells.toArray)]).run Try.prog w = .ok (.agg ((leafN v noMk).row none 0).toArray) w := by
  obtain ⟨kd, md, sz, sm⟩ := v
  obtain ⟨b0, b1, b2, b3, b4, b5, b6, b7, b8, b9, b10, b11, b12, b13, b14, b15, b16, b17, b18, b19, b20, b21, b22, b23, b24, b25, b26, b27, b28, b29, b30, b31, hl⟩ := list32 sm hv
  subst hl
  exact run_build w _ _ _ (by kernel_rfl)
theorem noMkW : mwf noMk := by
  have h : i64 (0 : Int) := by unfold i64; omega
  exact ⟨h, h, h, h⟩
theorem vwfW (k m z : Int) (l : List UInt8) (hl : l.length = 32) (h1 : 0 ≤ k ∧ k ≤ 9) (h2 : 0 ≤ m ∧ m ≤ 9) (h3 : 0 ≤ z ∧ z ≤ 1048576) : (Vl.mk k m z l).wf := by
  refine ⟨hl, ?_, ?_, ?_⟩ <;> (show i64 _; unfold i64; dsimp only; omega)
/-- What a walk through wood keeps: the turner's number, what is left, the answer's room. -/
structure St (w : World) (X L R : Nat) (Z : Array Value) (wr : World) (x l : Nat) : Prop where
  xlt : x < 2147483648
  turn : wr.heap[X]? = some (.cells #[.int .i64 (x : Nat)] 88 (0, 0))
  left : wr.heap[L]? = some (.cells #[.int .i64 (l : Nat)] 3 (0, 0))
  room : wr.heap[R]? = some (.cells Z 30 (0, 0))
  upd : Upd (fun b => b = X ∨ b = L) w wr
  x0 : X < w.heap.size
  l0 : L < w.heap.size
  r0 : w.heap.size ≤ R
  xl : X ≠ L
theorem St.below {w : World} {X L R : Nat} {Z : Array Value} {wr w5 : World} {x l : Nat} (h : St w X L R Z wr x l) (hb : Below wr.heap.size wr w5) : St w X L R Z w5 x l :=
  ⟨h.xlt, (hb.block X (lt_heap h.turn)).trans h.turn, (hb.block L (lt_heap h.left)).trans h.left, (hb.block R (lt_heap h.room)).trans h.room, h.upd.trans (Upd.below hb _), h.x0, h.l0, h.r0, h.xl⟩
theorem St.next {w : World} {X L R : Nat} {Z : Array Value} {wr w5 : World} {x l x' : Nat} (h : St w X L R Z wr x l) (hx : x' < 2147483648) (h5 : w5.heap[X]? = some (.cells #[.int .i64 (x' : Nat)] 88 (0, 0))) (hu : Upd (fun b => b = X) wr w5) : St w X L R Z w5 x' l :=
  ⟨hx, h5, hu.at_ h.left (fun e => h.xl e.symm), hu.at_ h.room (fun e => by have := h.x0; have := h.r0; omega), h.upd.trans (hu.mono (fun b _ e => Or.inl e)), h.x0, h.l0, h.r0, h.xl⟩
theorem St.set {w : World} {X L R : Nat} {Z : Array Value} {wr w5 : World} {x l B : Nat} (h : St w X L R Z wr x l) (hu : Upd (fun b => b = B) wr w5) (hB : w.heap.size ≤ B) (hR : B ≠ R) : St w X L R Z w5 x l :=
  ⟨h.xlt, hu.at_ h.turn (fun e => by have := h.x0; omega), hu.at_ h.left (fun e => by have := h.l0; omega), hu.at_ h.room (fun e => hR e.symm), h.upd.then hu (fun b hb e => by omega), h.x0, h.l0, h.r0, h.xl⟩
theorem St.kid {w : World} {X L R : Nat} {Z : Array Value} {wr w5 : World} {x l x' l' : Nat} (h : St w X L R Z wr x l) (hx : x' < 2147483648) (h5 : w5.heap[X]? = some (.cells #[.int .i64 (x' : Nat)] 88 (0, 0))) (h6 : w5.heap[L]? = some (.cells #[.int .i64 (l' : Nat)] 3 (0, 0))) (hu : Upd (fun b => b = X ∨ b = L) wr w5) : St w X L R Z w5 x' l' :=
  ⟨hx, h5, h6, hu.at_ h.room (fun e => by have := h.x0; have := h.l0; have := h.r0; omega), h.upd.trans hu, h.x0, h.l0, h.r0, h.xl⟩
theorem St.own {S : Nat → Prop} {w : World} {X L R : Nat} {Z : Array Value} {wr w5 : World} {x l : Nat} (h : St w X L R Z wr x l) (hu : Upd S wr w5) (hS : ∀ b, S b → w.heap.size ≤ b ∧ b ≠ R) : St w X L R Z w5 x l :=
  ⟨h.xlt, hu.at_ h.turn (fun e => by have := (hS _ e).1; have := h.x0; omega), hu.at_ h.left (fun e => by have := (hS _ e).1; have := h.l0; omega), hu.at_ h.room (fun e => (hS _ e).2 rfl), h.upd.then hu (fun b hb e => by have := (hS _ e).1; omega), h.x0, h.l0, h.r0, h.xl⟩
theorem CopySt.nextU {S : Nat → Prop} {w wr w5 w6 : World} {d k : Nat} {a3 : Option Addr} {c3 : Nat} {ks : List Nd} {al : List (Option Addr × Nat)} (h : CopySt w wr d k a3 c3 ks al) (hw : w.heap.size ≤ wr.heap.size) {x : Nd} (h5 : Upd S wr w5) (hS : ∀ b, S b → b < w.heap.size) {a' : Option Addr} (c' : Nat) (hx : NodeIn w5 (fun b => wr.heap.size ≤ b) d x a')
    {a4 : Option Addr} {c4 : Nat} {o : Obj} (ho : Own w6 30 41 (.slice a4 (k + 1) c4) (k + 1) (rowsOf ks al ++ x.row a' c')) (hg : (w5.alloc o).grownBy w6 (Value.slice a3 k c3).ownBlock) (hn : ∀ b, (Value.slice a3 k c3).ownBlock ≠ some b → (Value.slice a4 (k + 1) c4).ownBlock = some b → w5.heap.size + 1 ≤ b) :
    CopySt w w6 d (k + 1) a4 c4 (ks ++ [x]) (al ++ [(a', c')]) := by
  have hs5 := h5.size
  have u56 : Upd (fun b => (Value.slice a3 k c3).ownBlock = some b) w5 w6 := Upd.grown ((Upd.refl _ w5).alloc o) hg (fun b hb _ => hb)
  have l3 : ∀ b, (Value.slice a3 k c3).ownBlock = some b → b < wr.heap.size := fun b hb => h.out.lt hb
  have hn' : ∀ b, (Value.slice a4 (k + 1) c4).ownBlock = some b → (Value.slice a3 k c3).ownBlock = some b ∨ w5.heap.size ≤ b := fun b hb => by
    by_cases hc : (Value.slice a3 k c3).ownBlock = some b
    · exact .inl hc
    · have := hn b hc hb; exact .inr (by omega)
  refine ⟨by rw [rowsOf_append ks al x a' c' h.nodes.1]; exact ho, NodesIn.push ?_ c' ?_, fun b hb => ?_⟩
  · have t0 := (h.nodes.mono (G := fun b => (w.heap.size ≤ b ∧ (Value.slice a3 k c3).ownBlock ≠ some b) ∧ b < wr.heap.size) (fun b hb hl => ⟨hb, hl⟩))
    have t1 := (t0.kept h5 (fun b hb hs => by have := hS b hs; omega)).kept u56 (fun b hb hS => hb.1.2 hS)
    refine t1.mono ?_
    intro b hb _
    refine ⟨hb.1.1, fun e => ?_⟩
    rcases hn' b e with h | h
    · exact hb.1.2 h
    · omega
  · have t0 := hx.mono (G := fun b => wr.heap.size ≤ b ∧ b < w5.heap.size) (fun b hb hl => ⟨hb, hl⟩)
    have t1 := t0.kept u56 (fun b hb hS => by have := l3 b hS; omega)
    refine t1.mono ?_
    intro b hb _
    refine ⟨by omega, fun e => ?_⟩
    rcases hn' b e with h | h
    · have := l3 b h; omega
    · omega
  · rcases hn' b hb with h1 | h1
    · exact h.n3 b h1
    · omega
/-- What wood answers. -/
def WoodAt (d lv : Nat) : Prop := ∀ (w : World) (X L x l : Nat), w.heap[X]? = some (.cells #[.int .i64 (x : Nat)] 88 (0, 0)) → w.heap[L]? = some (.cells #[.int .i64 (l : Nat)] 3 (0, 0)) → X ≠ L → x < 2147483648 → 1 ≤ l → l ≤ 3000 →
  Calls Try.prog 96 #[.pointer (some ⟨X, 0, none⟩), .pointer (some ⟨L, 0, none⟩), .int .i64 (lv : Nat)] w fun e w' => ∃ (n : Nd) (a : Option Addr) (c x' l' : Nat), e = .returned (.agg (n.row a c).toArray) ∧ NodeIn w' (fun b => w.heap.size ≤ b) d n a ∧ n.name = ⟨#[]⟩ ∧ WoodOk n lv ∧ n.parts + 5 * l' + 4 ≤ 5 * l ∧
    x' < 2147483648 ∧ w'.heap[X]? = some (.cells #[.int .i64 (x' : Nat)] 88 (0, 0)) ∧ w'.heap[L]? = some (.cells #[.int .i64 (l' : Nat)] 3 (0, 0)) ∧ Upd (fun b => b = X ∨ b = L) w w'
theorem leaf_in {w : World} (F : Nat → Prop) (d : Nat) (v : Vl) (m : Mk × Mk) (hv : v.wf) (hm : mwf m) : NodeIn w F d (leafN v m) none := ⟨hv, hm, by show (0 : Nat) ≤ _; omega, by show (0 : Nat) ≤ _; omega, by
  cases d with
  | zero => rfl
  | succ d => intro i k hk; simp [leafN, Nd.kids] at hk⟩
theorem leaf_ok (v : Vl) (m : Mk × Mk) (lv : Nat) (hl : lv < 64) (h : ownErr v m 0 = 0) : WoodOk (leafN v m) lv := woodOk_of _ lv hl h (woodKids_nil _) (by show (0 : Nat) ≤ _; omega)
theorem leaf_parts (v : Vl) (m : Mk × Mk) : (leafN v m).parts = 1 := rfl
theorem dir_parts (v : Vl) (ks : List Nd) : (dirN v ks).parts = 1 + partsAll ks := by rw [parts_eq]; rfl
theorem St.done {w : World} {X L R : Nat} {Z : Array Value} {wr w5 : World} {x l : Nat} (h : St w X L R Z wr x l) (hu : Upd (fun b => b = R) wr w5) :
    w5.heap[X]? = some (.cells #[.int .i64 (x : Nat)] 88 (0, 0)) ∧ w5.heap[L]? = some (.cells #[.int .i64 (l : Nat)] 3 (0, 0)) ∧ Upd (fun b => b = X ∨ b = L) w w5 :=
  ⟨hu.at_ h.turn (fun e => by have := h.x0; have := h.r0; omega), hu.at_ h.left (fun e => by have := h.l0; have := h.r0; omega), h.upd.then hu (fun b hb e => by have := h.r0; omega)⟩
theorem vl_byte (k m z : Int) (l : List UInt8) (j b : Nat) (hj : j < l.length) (hb : b < 256) : (Vl.mk k m z l).cells.toArray.setIfInBounds (3 + j) (.int .u8 (b : Nat)) = (Vl.mk k m z (l.set j (UInt8.ofNat b))).cells.toArray := by
  apply Array.ext'
  rw [Array.toList_setIfInBounds]
  show (_ :: _ :: _ :: bytes l).set (3 + j) _ = _ :: _ :: _ :: bytes (l.set j (UInt8.ofNat b))
  rw [show 3 + j = j + 1 + 1 + 1 by omega, List.set_cons_succ, List.set_cons_succ, List.set_cons_succ]
  congr 3
  unfold bytes
  rw [List.map_set]
  congr 1
  show _ = Value.int .u8 ((UInt8.ofNat b).toNat : Nat)
  rw [UInt8.toNat_ofNat', Nat.mod_eq_of_lt (by omega)]
theorem vl_cell (w : World) (V : Nat) (v : Vl) (j : Nat) (t : TypeId) (fr : Nat × Nat) (h : w.heap[V]? = some (.cells v.cells.toArray t fr)) (hj : j < v.sum.length) : ∃ o, w.cell? ⟨V, 3 + j, none⟩ = some o := by
  refine ⟨.int .u8 ((v.sum[j]'hj).toNat : Nat), ?_⟩
  rw [cell_of_row w V (3 + j) _ _ _ h]
  show (v.cells.toArray)[3 + j]? = _
  rw [List.getElem?_toArray]
  show (_ :: _ :: _ :: bytes v.sum)[3 + j]? = _
  rw [show 3 + j = j + 1 + 1 + 1 by omega, List.getElem?_cons_succ, List.getElem?_cons_succ, List.getElem?_cons_succ]
  unfold bytes
  rw [List.getElem?_map, List.getElem?_eq_getElem hj]
  rfl
theorem zeros_len : zeros.length = 32 := rfl
theorem set_pair0 (x y z : Value) (A : List Value) (m1 m2 m3 m4 K : Value) (h : A.length = 35) : ((x :: (A ++ ([m1, m2, m3, m4] ++ [K]))).set 36 y).set 37 z = x :: (A ++ ([y, z, m3, m4] ++ [K])) := by
  simp [List.set_append, h]
theorem set_pair1 (x y z : Value) (A : List Value) (m1 m2 m3 m4 K : Value) (h : A.length = 35) : ((x :: (A ++ ([m1, m2, m3, m4] ++ [K]))).set 38 y).set 39 z = x :: (A ++ ([m1, m2, y, z] ++ [K])) := by
  simp [List.set_append, h]
theorem row_mark0 (w : World) (N : Nat) (u : Vl) (y z : Int) (hu : u.wf) (h : w.heap[N]? = some (.cells ((leafN u noMk).row none 0).toArray 30 (0, 0))) :
    (w.setCells N 36 [.int .i64 y, .int .i64 z]).heap[N]? = some (.cells ((leafN u (⟨y, z⟩, ⟨0, 0⟩)).row none 0).toArray 30 (0, 0)) := by
  have h1 := heap_setCell_same w N 36 _ _ (.int .i64 y) h
  have h2 := heap_setCell_same _ N 37 _ _ (.int .i64 z) h1
  have e : (((leafN u noMk).row none 0).toArray.setIfInBounds 36 (.int .i64 y)).setIfInBounds 37 (.int .i64 z) = ((leafN u (⟨y, z⟩, ⟨0, 0⟩)).row none 0).toArray := by
    apply Array.ext'
    simp only [Array.toList_setIfInBounds]
    exact set_pair0 _ _ _ _ _ _ _ _ _ (u.cells_length hu)
  rw [e] at h2
  exact h2
theorem row_mark1 (w : World) (N : Nat) (u : Vl) (y z : Int) (hu : u.wf) (h : w.heap[N]? = some (.cells ((leafN u noMk).row none 0).toArray 30 (0, 0))) :
    (w.setCells N 38 [.int .i64 y, .int .i64 z]).heap[N]? = some (.cells ((leafN u (⟨0, 0⟩, ⟨y, z⟩)).row none 0).toArray 30 (0, 0)) := by
  have h1 := heap_setCell_same w N 38 _ _ (.int .i64 y) h
  have h2 := heap_setCell_same _ N 39 _ _ (.int .i64 z) h1
  have e : (((leafN u noMk).row none 0).toArray.setIfInBounds 38 (.int .i64 y)).setIfInBounds 39 (.int .i64 z) = ((leafN u (⟨0, 0⟩, ⟨y, z⟩)).row none 0).toArray := by
    apply Array.ext'
    simp only [Array.toList_setIfInBounds]
    exact set_pair1 _ _ _ _ _ _ _ _ _ (u.cells_length hu)
  rw [e] at h2
  exact h2
theorem there_rowW {w : World} {g : Nat} {t : TypeId} {cs : Array Value} (hr : w.heap[g]? = some (.cells cs t (0, 0))) (o n : Nat) (h : o + n ≤ cs.size) : w.there g o n := by
  intro j hj
  exact ⟨by rw [cell_of_row w g (o + j) _ _ _ hr, Array.getElem?_eq_getElem (by omega)]; rfl, frozen_of_row w g (o + j) _ _ hr⟩
theorem nd_cell (w : World) (N : Nat) (n : Nd) (a : Option Addr) (c j : Nat) (hn : n.v.wf) (h : w.heap[N]? = some (.cells (n.row a c).toArray 30 (0, 0))) (hj : j < 41) : ∃ o, w.cell? ⟨N, j, none⟩ = some o := by
  refine ⟨(n.row a c)[j]'(by rw [row_len hn]; exact hj), ?_⟩
  rw [cell_of_row w N j _ _ _ h, List.getElem?_toArray]
  exact List.getElem?_eq_getElem _
theorem NodeIn.namedW {w : World} {F : Nat → Prop} {d : Nat} {n : Nd} {a : Option Addr} (h : NodeIn w F d n a) (s : ByteArray) (hs : s.size ≤ 9223372036854775807) : NodeIn w F d (n.named s) a := ⟨h.vwf, h.mwf, hs, h.ksz, h.kids⟩
theorem CopySt.doneW {w2 wr wz : World} {d k : Nat} {a3 : Option Addr} {c3 : Nat} {ks : List Nd} {al : List (Option Addr × Nat)} (h : CopySt w2 wr d k a3 c3 ks al) (hu : Upd (fun b => b < w2.heap.size) wr wz) : CopySt w2 wz d k a3 c3 ks al := by
  refine ⟨h.out.kept hu (fun b hb => ?_), (h.nodes.kept hu (fun b hb => ?_)).mono (fun b hb _ => ⟨hb.1, hb.2⟩), h.n3⟩
  · have := h.n3 b hb; omega
  · have := hb.1; omega
theorem partsAll_push (ks : List Nd) (n : Nd) (j : Nat) (hn : n.name = ⟨#[]⟩) : partsAll (ks ++ [n.named (figs j)]) = partsAll ks + (n.parts + 4) := by
  rw [partsAll_append]
  show _ + ((n.named (figs j)).parts + 0) = _
  rw [parts_eq, parts_eq n, hn]
  show _ + (1 + 4 + partsAll n.kids + 0) = _ + (1 + 0 + partsAll n.kids + 4)
  omega
theorem mk_ok (x y : Nat) (hx : x < 1048576) (hy : y < 1048576) : MarkP ⟨1 + (x : Int), 1 + (y : Int)⟩ := by unfold MarkP; dsimp only; omega
theorem mk_no : MarkP ⟨0, 0⟩ := by unfold MarkP; dsimp only; omega
set_option maxHeartbeats 8000000 in
set_option maxRecDepth 100000 in
theorem wood_step (d lv : Nat) (hlv : lv + d = 9) (h1 : 1 ≤ lv) (ih : ∀ e, d = e + 1 → WoodAt e (lv + 1)) : WoodAt d lv := by
  intro w X L x l hX hL hXL hx hl1 hl2
  obtain ⟨l1, rfl⟩ : ∃ l1, l = l1 + 1 := ⟨l - 1, by omega⟩
  have Ih := Lib.hid ih
  clear ih
  have q0 : ((lv : Int) == 0) = false := beq_f (by omega)
  go_enter Try.func96, Try.ntmps96
  go_upto_region 1 with fail
  have hres := heap_alloc_new w (.cells #[.string ⟨#[]⟩, .int .i64 0, .int .i64 0, .int .i64 0, .int .u8 0, .int .u8 0, .int .u8 0, .int .u8 0, .int .u8 0, .int .u8 0, .int .u8 0, .int .u8 0, .int .u8 0, .int .u8 0, .int .u8 0, .int .u8 0, .int .u8 0, .int .u8 0, .int .u8 0, .int .u8 0, .int .u8 0, .int .u8 0, .int .u8 0, .int .u8 0, .int .u8 0, .int .u8 0, .int .u8 0, .int .u8 0, .int .u8 0, .int .u8 0, .int .u8 0, .int .u8 0, .int .u8 0, .int .u8 0, .int .u8 0, .int .u8 0, .int .i64 0, .int .i64 0, .int .i64 0, .int .i64 0, .slice none 0 0] 30)
  have hbl := on_alloc (Below.refl _ w) (.cells #[.string ⟨#[]⟩, .int .i64 0, .int .i64 0, .int .i64 0, .int .u8 0, .int .u8 0, .int .u8 0, .int .u8 0, .int .u8 0, .int .u8 0, .int .u8 0, .int .u8 0, .int .u8 0, .int .u8 0, .int .u8 0, .int .u8 0, .int .u8 0, .int .u8 0, .int .u8 0, .int .u8 0, .int .u8 0, .int .u8 0, .int .u8 0, .int .u8 0, .int .u8 0, .int .u8 0, .int .u8 0, .int .u8 0, .int .u8 0, .int .u8 0, .int .u8 0, .int .u8 0, .int .u8 0, .int .u8 0, .int .u8 0, .int .u8 0, .int .i64 0, .int .i64 0, .int .i64 0, .int .i64 0, .slice none 0 0] 30)
  have hsz : (w.alloc (.cells #[.string ⟨#[]⟩, .int .i64 0, .int .i64 0, .int .i64 0, .int .u8 0, .int .u8 0, .int .u8 0, .int .u8 0, .int .u8 0, .int .u8 0, .int .u8 0, .int .u8 0, .int .u8 0, .int .u8 0, .int .u8 0, .int .u8 0, .int .u8 0, .int .u8 0, .int .u8 0, .int .u8 0, .int .u8 0, .int .u8 0, .int .u8 0, .int .u8 0, .int .u8 0, .int .u8 0, .int .u8 0, .int .u8 0, .int .u8 0, .int .u8 0, .int .u8 0, .int .u8 0, .int .u8 0, .int .u8 0, .int .u8 0, .int .u8 0, .int .i64 0, .int .i64 0, .int .i64 0, .int .i64 0, .slice none 0 0] 30)).heap.size = w.heap.size + 1 := by simp
  generalize w.alloc (.cells #[.string ⟨#[]⟩, .int .i64 0, .int .i64 0, .int .i64 0, .int .u8 0, .int .u8 0, .int .u8 0, .int .u8 0, .int .u8 0, .int .u8 0, .int .u8 0, .int .u8 0, .int .u8 0, .int .u8 0, .int .u8 0, .int .u8 0, .int .u8 0, .int .u8 0, .int .u8 0, .int .u8 0, .int .u8 0, .int .u8 0, .int .u8 0, .int .u8 0, .int .u8 0, .int .u8 0, .int .u8 0, .int .u8 0, .int .u8 0, .int .u8 0, .int .u8 0, .int .u8 0, .int .u8 0, .int .u8 0, .int .u8 0, .int .u8 0, .int .i64 0, .int .i64 0, .int .i64 0, .int .i64 0, .slice none 0 0] 30) = w2 at hres hbl hsz ⊢
  obtain ⟨Z, hZ⟩ : ∃ Z : Array Value, Z = #[.string ⟨#[]⟩, .int .i64 0, .int .i64 0, .int .i64 0, .int .u8 0, .int .u8 0, .int .u8 0, .int .u8 0, .int .u8 0, .int .u8 0, .int .u8 0, .int .u8 0, .int .u8 0, .int .u8 0, .int .u8 0, .int .u8 0, .int .u8 0, .int .u8 0, .int .u8 0, .int .u8 0, .int .u8 0, .int .u8 0, .int .u8 0, .int .u8 0, .int .u8 0, .int .u8 0, .int .u8 0, .int .u8 0, .int .u8 0, .int .u8 0, .int .u8 0, .int .u8 0, .int .u8 0, .int .u8 0, .int .u8 0, .int .u8 0, .int .i64 0, .int .i64 0, .int .i64 0, .int .i64 0, .slice none 0 0] := ⟨_, rfl⟩
  obtain ⟨R, hR⟩ : ∃ R, R = w.heap.size := ⟨_, rfl⟩
  have hZs := Lib.hid (show Z.size = 41 by rw [hZ]; rfl)
  rw [← hZ, ← hR] at hres
  rw [← hR]
  have St2 : St w X L R Z w2 x (l1 + 1) := ⟨hx, (hbl.block X (lt_heap hX)).trans hX, (hbl.block L (lt_heap hL)).trans hL, hres, Upd.below hbl _, lt_heap hX, lt_heap hL, by omega, hXL⟩
  have fl := cell_of_row w2 L 0 _ _ _ St2.left
  simp at fl
  have zl := frozen_of_row w2 L 0 _ _ St2.left
  have hs3 := heap_setCell_same w2 L 0 _ _ (.int .i64 (l1 : Nat)) St2.left
  have hu3 : Upd (fun b => b = L) w2 (w2.setCell ⟨L, 0, none⟩ (.int .i64 (l1 : Nat))) := (Upd.refl _ _).setCell _ _ (fun _ => rfl)
  have St3 : St w X L R Z (w2.setCell ⟨L, 0, none⟩ (.int .i64 (l1 : Nat))) x l1 := ⟨hx, hu3.at_ St2.turn hXL, by simpa using hs3, hu3.at_ St2.room (fun e => by have := St2.l0; have := St2.r0; omega), St2.upd.trans (hu3.mono (fun b _ e => Or.inr e)), St2.x0, St2.l0, St2.r0, hXL⟩
  have HS3 := Lib.hid St3
  have Hw2 := Lib.hid (show w.heap.size ≤ w2.heap.size by omega)
  have hX0 := hx
  have hRw : w.heap.size ≤ R := by omega
  have HR := Lib.hid hR
  clear hs3 hu3 St3 St2 hres hbl hZ hX hL hR
  go_wp2_with fail
  generalize w2.setCell ⟨L, 0, none⟩ (.int .i64 (l1 : Nat)) = w3 at HS3 ⊢
  refine (next_any w3 X _ x HS3.out.turn hX0 8 (by decide) (by decide)).mono ?_
  rintro e w4 ⟨k, x4, rfl, hk, hx4, hX4, hu4⟩
  have HS4 := Lib.hid (HS3.out.next hx4 hX4 hu4)
  clear hX4 hu4 HS3 fl zl
  by_cases hA : k < 3 ∧ lv < 9
  · have a1 : (k : Int) < 3 := by omega
    have a2 : (lv : Int) < 9 := by omega
    obtain ⟨d', rfl⟩ : ∃ e, d = e + 1 := ⟨d - 1, by omega⟩
    have Hih := Lib.hid (Ih.out d' rfl)
    clear Ih
    obtain ⟨i0, hi, hz0, hz1, hz2⟩ := info_parts info_nodeF
    go_wp2_with fail
    refine (next_any w4 X _ x4 HS4.out.turn HS4.out.xlt 9 (by decide) (by decide)).mono ?_
    rintro e5 w5 ⟨r5, x5, rfl, hr5, hx5, hX5, hu5⟩
    have HS5 := Lib.hid (HS4.out.next hx5 hX5 hu5)
    clear hX5 hu5 hx5 HS4
    obtain ⟨v, hv⟩ : ∃ v : Vl, v = ⟨1, (r5 : Nat), 0, zeros⟩ := ⟨_, rfl⟩
    have Hb := Lib.hid (bldW1 (r5 : Nat))
    rw [← hv] at Hb
    have hvwf : v.wf := by rw [hv]; exact vwfW _ _ _ _ zeros_len (by omega) (by omega) (by omega)
    have HbN := Lib.hid (bldWN v hvwf.1)
    obtain ⟨A, hA⟩ : ∃ A : Array Value, A = v.cells.toArray := ⟨_, rfl⟩
    rw [← hA] at Hb HbN
    obtain ⟨C, hC⟩ : ∃ C : Array Value, C = ((leafN v noMk).row none 0).toArray := ⟨_, rfl⟩
    rw [← hC] at HbN
    have hCs := Lib.hid (show C.size = 41 by rw [hC, List.size_toArray]; exact row_len (n := leafN v noMk) hvwf)
    have hCo := Lib.hid (show C.all (·.oneCell') = true by rw [hC]; exact all_one (nrow_one _ _ _ _ _ _))
    have HC := Lib.hid hC
    have Hv := Lib.hid hv
    have Hvwf := Lib.hid hvwf
    clear hA hC hv hvwf
    go_wp2_with (first | (refine wpList_build_eq (by rfl) 24 #[(0, .const (.int .i64 1)), (1, .tmp 34)] rfl #[(0, .int .i64 1), (1, .int .i64 (r5 : Nat))] (by kernel_rfl) (.agg A) (Hb.out _) ?_) | (refine wpList_build_eq (by rfl) 30 #[(1, .tmp 35)] rfl #[(1, .agg A)] (by kernel_rfl) (.agg C) (HbN.out _) ?_) | (refine wpList_store_fresh rfl 30 _ _ rfl C rfl rfl (by rw [hCs.out]; kernel_rfl) (by rw [hCs.out]; rfl) hCo.out ?_))
    intro w6 hs6 hrow6 hb6
    obtain ⟨N, hN⟩ : ∃ N, N = w5.heap.size := ⟨_, rfl⟩
    rw [← hN, HC.out] at hrow6
    rw [← hN] at hs6
    rw [← hN]
    have HS6 := Lib.hid (HS5.out.below hb6)
    have hNw : w.heap.size ≤ N := by rw [hN]; exact HS5.out.upd.size
    have hNR : N ≠ R := by have := lt_heap HS5.out.room; omega
    have hNX : N ≠ X := by have := HS5.out.x0; omega
    have hNL : N ≠ L := by have := HS5.out.l0; omega
    have hN6 : N < w6.heap.size := by omega
    have hR6 : R < w6.heap.size := lt_heap HS6.out.room
    have hX6 : X < w6.heap.size := lt_heap HS6.out.turn
    have hL6 : L < w6.heap.size := lt_heap HS6.out.left
    have hw6 : w.heap.size ≤ w6.heap.size := by omega
    have Hrow6 := Lib.hid hrow6
    have Hxl6 := HS6.out.xlt
    clear hrow6 hb6 hN Hb HbN HC hCs hCo HS5 hs6
    go_wp2_with fail
    go_loopw [9] (fun i wr => ∃ (j : Nat) (a3 : Option Addr) (c3 : Nat) (al : List (Option Addr × Nat)) (ks : List Nd) (xr lr : Nat), ks.length = j ∧ i = .int .i64 (j : Nat) ∧ j ≤ 12 ∧ j + lr ≤ l1 ∧ partsAll ks + 5 * lr ≤ 5 * l1 ∧ WoodKids ks (lv + 1) ∧ wr.heap[N]? = some (.cells ((dirN v ks).row a3 c3).toArray 30 (0, 0)) ∧ CopySt w6 wr d' j a3 c3 ks al ∧ St w X L R Z wr xr lr ∧ w6.heap.size ≤ wr.heap.size) (fun i _ => 4000 - (intOf i).toNat)
    case atStart => exact ⟨0, none, 0, [], [], x5, l1, rfl, rfl, by omega, by omega, by show 0 + _ ≤ _; omega, woodKids_nil _, Hrow6.out, ⟨Own.nil _ _ _, ⟨rfl, fun i k a c h => by simp at h⟩, fun b hb => by simp [Value.ownBlock] at hb⟩, HS6.out, Nat.le_refl _⟩
    case round =>
      obtain ⟨j, a3, c3, al, ks, xr, lr, hj, rfl, hj12, hjl, hpa, hwk, hrow, hst, hsr, hwr⟩ := hrel
      have HstR := Lib.hid hst
      have Hj := Lib.hid hj
      have Hpa := Lib.hid hpa
      have Hwk := Lib.hid hwk
      have Hrow := Lib.hid hrow
      have Hst := Lib.hid hst
      have HSr := Lib.hid hsr
      have fl := cell_of_row wr L 0 _ _ _ hsr.left
      simp at fl
      have h9999 : (j : Int) < 9999 := by omega
      clear hj hpa hwk hrow hst hsr HS6 Hrow6
      by_cases hl0 : lr = 0
      · subst hl0
        have hn41 := Lib.hid (row_len (n := dirN v ks) (a := a3) (c := c3) Hvwf.out)
        obtain ⟨D, hD⟩ : ∃ D : Array Value, D = ((dirN v ks).row a3 c3).toArray := ⟨_, rfl⟩
        have Ds := Lib.hid (show D.size = 41 by rw [hD, List.size_toArray]; exact hn41.out)
        have Do := Lib.hid (show D.all (·.oneCell') = true by rw [hD]; exact all_one (nrow_one _ _ _ _ _ _))
        have HD := Lib.hid hD
        clear hD
        go_wp2_with (first | (refine wpList_load_midg (by rfl) 30 (.tmp 8) rfl N 0 rfl ((dirN v ks).row a3 c3) _ (rangeAt_row Hrow.out) Try.underlying30 rfl (by rw [hn41.out]; kernel_rfl) ?_; rw [← HD.out]) | (refine store_rowW rfl 30 (.tmp 6) (.tmp 74) rfl R D rfl rfl 30 Z HSr.out.room (by rw [Ds.out]; kernel_rfl) (by rw [Ds.out, hZs.out]) Do.out ?_))
        intro wz hrz huz
        have hdn := HSr.out.done huz
        have hxz := HSr.out.xlt
        go_wp2
        refine bodyPost_ret (results_cell_row (P := Try.prog) Try.results96 _ _ R 30 D (0, 0) _ rfl hrz Try.underlying30 rfl (by rw [Ds.out]; kernel_rfl)) rfl ⟨dirN v ks, a3, c3, _, _, by rw [HD.out], ⟨Hvwf.out, noMkW, by show (0 : Nat) ≤ _; omega, by show ks.length ≤ _; rw [Hj.out]; omega, CopySt.kids (d := d' + 1) Hst.out hw6 (huz.mono (fun b _ hb => by have hb' : b = R := hb; omega)) (fun h0 => absurd h0 (by omega))⟩, rfl, woodOk_of _ _ (by omega) (by rw [Hv.out]; exact own_dir _ (by omega) (by omega) _) Hwk.out (by show ks.length ≤ _; rw [Hj.out]; omega), by rw [dir_parts]; have := Hpa.out; omega, hxz, hdn.1, hdn.2.1, hdn.2.2⟩
      have b1 : (0 : Int) < (lr : Int) := by omega
      by_cases hj2 : j = 12
      · have hj3 : ¬ (j : Int) < 12 := by omega
        have hn41 := Lib.hid (row_len (n := dirN v ks) (a := a3) (c := c3) Hvwf.out)
        obtain ⟨D, hD⟩ : ∃ D : Array Value, D = ((dirN v ks).row a3 c3).toArray := ⟨_, rfl⟩
        have Ds := Lib.hid (show D.size = 41 by rw [hD, List.size_toArray]; exact hn41.out)
        have Do := Lib.hid (show D.all (·.oneCell') = true by rw [hD]; exact all_one (nrow_one _ _ _ _ _ _))
        have HD := Lib.hid hD
        clear hD
        go_wp2_with (first | (refine wpList_load_midg (by rfl) 30 (.tmp 8) rfl N 0 rfl ((dirN v ks).row a3 c3) _ (rangeAt_row Hrow.out) Try.underlying30 rfl (by rw [hn41.out]; kernel_rfl) ?_; rw [← HD.out]) | (refine store_rowW rfl 30 (.tmp 6) (.tmp 74) rfl R D rfl rfl 30 Z HSr.out.room (by rw [Ds.out]; kernel_rfl) (by rw [Ds.out, hZs.out]) Do.out ?_))
        intro wz hrz huz
        have hdn := HSr.out.done huz
        have hxz := HSr.out.xlt
        go_wp2
        refine bodyPost_ret (results_cell_row (P := Try.prog) Try.results96 _ _ R 30 D (0, 0) _ rfl hrz Try.underlying30 rfl (by rw [Ds.out]; kernel_rfl)) rfl ⟨dirN v ks, a3, c3, _, _, by rw [HD.out], ⟨Hvwf.out, noMkW, by show (0 : Nat) ≤ _; omega, by show ks.length ≤ _; rw [Hj.out]; omega, CopySt.kids (d := d' + 1) Hst.out hw6 (huz.mono (fun b _ hb => by have hb' : b = R := hb; omega)) (fun h0 => absurd h0 (by omega))⟩, rfl, woodOk_of _ _ (by omega) (by rw [Hv.out]; exact own_dir _ (by omega) (by omega) _) Hwk.out (by show ks.length ≤ _; rw [Hj.out]; omega), by rw [dir_parts]; have := Hpa.out; omega, hxz, hdn.1, hdn.2.1, hdn.2.2⟩
      have hj3 : (j : Int) < 12 := by omega
      go_wp2_with fail
      refine (next_any wr X _ xr HSr.out.turn HSr.out.xlt 5 (by decide) (by decide)).mono ?_
      rintro e7 w7 ⟨r7, x7, rfl, hr7, hx7, hX7, hu7⟩
      have HS7 := Lib.hid (HSr.out.next hx7 hX7 hu7)
      have HuA := Lib.hid (hu7.mono (T := fun b => b = X ∨ b = L) (fun b _ e => Or.inl e))
      have Hrowq := Lib.hid (hu7.at_ Hrow.out hNX)
      have Hstq := Lib.hid (Hst.out.doneW (hu7.mono (fun b _ hb => by have hb' : b = X := hb; omega)))
      have hw7 : w6.heap.size ≤ w7.heap.size := Nat.le_trans hwr hu7.size
      replace Hrow := Hrowq
      replace Hst := Hstq
      clear Hrowq Hstq hX7 hu7 HSr fl
      by_cases h70 : r7 = 0
      · subst h70
        have hn41 := Lib.hid (row_len (n := dirN v ks) (a := a3) (c := c3) Hvwf.out)
        obtain ⟨D, hD⟩ : ∃ D : Array Value, D = ((dirN v ks).row a3 c3).toArray := ⟨_, rfl⟩
        have Ds := Lib.hid (show D.size = 41 by rw [hD, List.size_toArray]; exact hn41.out)
        have Do := Lib.hid (show D.all (·.oneCell') = true by rw [hD]; exact all_one (nrow_one _ _ _ _ _ _))
        have HD := Lib.hid hD
        clear hD
        go_wp2_with (first | (refine wpList_load_midg (by rfl) 30 (.tmp 8) rfl N 0 rfl ((dirN v ks).row a3 c3) _ (rangeAt_row Hrow.out) Try.underlying30 rfl (by rw [hn41.out]; kernel_rfl) ?_; rw [← HD.out]) | (refine store_rowW rfl 30 (.tmp 6) (.tmp 74) rfl R D rfl rfl 30 Z HS7.out.room (by rw [Ds.out]; kernel_rfl) (by rw [Ds.out, hZs.out]) Do.out ?_))
        intro wz hrz huz
        have hdn := HS7.out.done huz
        have hxz := HS7.out.xlt
        go_wp2
        refine bodyPost_ret (results_cell_row (P := Try.prog) Try.results96 _ _ R 30 D (0, 0) _ rfl hrz Try.underlying30 rfl (by rw [Ds.out]; kernel_rfl)) rfl ⟨dirN v ks, a3, c3, _, _, by rw [HD.out], ⟨Hvwf.out, noMkW, by show (0 : Nat) ≤ _; omega, by show ks.length ≤ _; rw [Hj.out]; omega, CopySt.kids (d := d' + 1) Hst.out hw6 (huz.mono (fun b _ hb => by have hb' : b = R := hb; omega)) (fun h0 => absurd h0 (by omega))⟩, rfl, woodOk_of _ _ (by omega) (by rw [Hv.out]; exact own_dir _ (by omega) (by omega) _) Hwk.out (by show ks.length ≤ _; rw [Hj.out]; omega), by rw [dir_parts]; have := Hpa.out; omega, hxz, hdn.1, hdn.2.1, hdn.2.2⟩
      have h7p : (0 : Int) < (r7 : Int) := by omega
      have fl7 := cell_of_row w7 L 0 _ _ _ HS7.out.left
      simp at fl7
      have hkid := Hih.out w7 X L x7 lr HS7.out.turn HS7.out.left hXL HS7.out.xlt (by omega) (by omega)
      rw [show ((lv + 1 : Nat) : Int) = (lv : Int) + 1 by omega] at hkid
      have Hkid := Lib.hid hkid
      clear hkid
      go_wp2_with fail
      refine Hkid.out.mono ?_
      rintro e8 w8 ⟨n, an, cn, x8, lB, rfl, hn, hnm, hok, hps, hx8, hX8, hL8, hu8⟩
      have HS8 := Lib.hid (HS7.out.kid hx8 hX8 hL8 hu8)
      have Hrow8 := Lib.hid (hu8.at_ Hrow.out (fun e => e.elim hNX hNL))
      have Hst8 := Lib.hid (Hst.out.doneW (hu8.mono (fun b _ hb => by have hb' : b = X ∨ b = L := hb; omega)))
      have hw8 : w7.heap.size ≤ w8.heap.size := hu8.size
      have HuB := Lib.hid (HuA.out.trans hu8)
      have hwr8 : wr.heap.size ≤ w8.heap.size := HuB.out.size
      have hwrA := HuA.out.size
      have Hn := Lib.hid (hn.mono (G := fun b => wr.heap.size ≤ b ∧ b < w8.heap.size) (fun b hb hl => ⟨Nat.le_trans hwrA hb, hl⟩))
      have Hok := Lib.hid hok
      have Hnm := Lib.hid hnm
      have Hps := Lib.hid hps
      have hnp : 1 ≤ n.parts := by rw [parts_eq]; omega
      have hlB : lB + 1 ≤ lr := by omega
      obtain ⟨D, hD⟩ : ∃ D : Array Value, D = (n.row an cn).toArray := ⟨_, rfl⟩
      have Ds := Lib.hid (show D.size = 41 by rw [hD, List.size_toArray]; exact row_len hn.vwf)
      have Do := Lib.hid (show D.all (·.oneCell') = true by rw [hD]; exact all_one (nrow_one _ _ _ _ _ _))
      have HD := Lib.hid hD
      rw [← hD]
      clear hD hn hnm hok hps hX8 hL8 hu8 Hkid Hst Hrow HS7 fl7
      go_wp2_with (refine wpList_store_fresh rfl 30 _ _ rfl D rfl rfl (by rw [Ds.out]; kernel_rfl) (by rw [Ds.out]; rfl) Do.out ?_)
      intro w9 hs9 hrow9 hb9
      obtain ⟨K, hK⟩ : ∃ K, K = w8.heap.size := ⟨_, rfl⟩
      rw [← hK, HD.out] at hrow9
      rw [← hK]
      have HS9 := Lib.hid (HS8.out.below hb9)
      have HrowK := Lib.hid hrow9
      have HrowN := Lib.hid ((hb9.block N (by omega)).trans Hrow8.out)
      have Hst9 := Lib.hid (Hst8.out.doneW (Upd.below hb9 _))
      have Hn9 := Lib.hid (Hn.out.below hb9)
      have HuC := Lib.hid (HuB.out.trans (Upd.below hb9 _))
      have hKw : w.heap.size ≤ K := by omega
      have hK9 : K < w9.heap.size := lt_heap hrow9
      have hKR : K ≠ R := by omega
      have hKN : K ≠ N := by omega
      have hNK : N ≠ K := by omega
      have hw9 : w8.heap.size ≤ w9.heap.size := by omega
      have HK := Lib.hid hK
      clear hrow9 hb9 HS8 Hrow8 Hst8 HD Ds Do hK
      go_wp2_with fail
      refine (digits_any w9 j (by omega)).mono ?_
      rintro e10 w10 ⟨rfl, hb10⟩
      have HS10 := Lib.hid (HS9.out.below hb10)
      have HrowK2 := Lib.hid ((hb10.block K hK9).trans HrowK.out)
      have HrowN2 := Lib.hid ((hb10.block N (by omega)).trans HrowN.out)
      have Hst10 := Lib.hid (Hst9.out.doneW (Upd.below hb10 _))
      have Hn10 := Lib.hid (Hn9.out.below hb10)
      have HuD := Lib.hid (HuC.out.trans (Upd.below hb10 _))
      have hw10 : w9.heap.size ≤ w10.heap.size := hb10.size
      clear hb10 HS9 HrowK HrowN Hst9 Hn9
      obtain ⟨o1, f1⟩ := nd_cell w10 K n an cn 0 Hn10.out.vwf HrowK2.out (by omega)
      have z1 := frozen_of_row w10 K 0 _ _ HrowK2.out
      have hsk := heap_setCell_same w10 K 0 _ _ (.string (figs j)) HrowK2.out
      rw [row_set0] at hsk
      have huk : Upd (fun b => b = K) w10 (w10.setCell ⟨K, 0, none⟩ (.string (figs j))) := (Upd.refl _ _).setCell _ _ (fun _ => rfl)
      have HS11 := Lib.hid (HS10.out.set huk hKw hKR)
      have HrowN3 := Lib.hid (huk.at_ HrowN2.out hNK)
      have HrowK3 := Lib.hid hsk
      have hu11 := huk
      go_upto_region 10 with fail
      generalize w10.setCell ⟨K, 0, none⟩ (.string (figs j)) = w11 at HS11 HrowN3 HrowK3 hu11 ⊢
      have hw11 := hu11.size
      have hw11 := hu11.size
      obtain ⟨y, hy⟩ : ∃ y, y = n.named (figs j) := ⟨_, rfl⟩
      rw [← hy] at HrowK3
      have hyw : y.v.wf := by rw [hy]; exact Hn10.out.vwf
      obtain ⟨E, hE⟩ : ∃ E : Array Value, E = (y.row an cn).toArray := ⟨_, rfl⟩
      have hEb := fun W => build_node y an cn hyw.1 W
      rw [← hE] at hEb
      have HEb := Lib.hid hEb
      have HE := Lib.hid hE
      have hy41 := Lib.hid (row_len (a := an) (c := cn) hyw)
      have hEl := Lib.hid (show E.toList = y.row an cn by rw [hE])
      have hS11 : Upd (fun b => b = X ∨ b = L) wr w11 := HuD.out.then hu11 (fun b hb e => by have e' : b = K := e; have := HK.out; omega)
      have Hout11 := Lib.hid (HstR.out.out.kept hS11 (fun b hb e => by have h1 := HstR.out.n3 b hb; have e' : b = X ∨ b = L := e; omega))
      have Hx11 := Lib.hid (show NodeIn w11 (fun b => wr.heap.size ≤ b) d' y an by rw [hy]; exact ((Hn10.out.kept hu11 (fun b hb e => by have e' : b = K := e; have := hb.2; have := HK.out; omega)).mono (fun b hb _ => hb.1)).namedW _ (by show (4 : Nat) ≤ _; omega))
      have HS11u := Lib.hid hS11
      have Hy := Lib.hid hy
      have f40 : w11.cell? ⟨N, 40, none⟩ = some (.slice a3 j c3) := by have h := (nrow_at (o := 0) Hvwf.out (rangeAt_row HrowN3.out)).2.2.2; simp only [Nat.zero_add] at h; rw [← Hj.out]; exact h
      clear hsk huk hu11 hE hEb f1 z1 hyw hy hS11 HS10 HrowK2 HrowN2 Hst10 Hn10
      go_wp2_with (first | (refine wpList_load_midg (by rfl) 30 (.tmp 10) rfl K 0 rfl (y.row an cn) _ (rangeAt_row HrowK3.out) Try.underlying30 rfl (by rw [hy41.out]; kernel_rfl) ?_; rw [← HE.out]) | (refine wpList_buildSlice_eq (by rfl) 28 1 #[(0, .tmp 70)] rfl #[(0, .agg E)] (by kernel_rfl) _ (HEb.out _) ?_) | (at_builtin; refine wpList_append_any rfl _ _ 28 rfl 30 i0 _ 41 128 Try.underlying28 hi hz0 hz1 hz2 rfl (by decide) (.slice a3 j c3) j (rowsOf ks al) (.slice (some ⟨w11.heap.size, 0, none⟩) 1 1) 1 (y.row an cn) rfl rfl (Hout11.out.kept ((Upd.refl (fun _ => False) w11).alloc _) (fun _ _ => id)) (Sl.made _ _ _ _ _ _ _ _ hEl.out (by rw [hy41.out]) (by omega)) (nrow_one _ _ _ _ _ _) (by omega) (by omega) ?_))
      intro a7 c7 w12 hown hgr hb12
      have u12 : Upd (fun b => (Value.slice a3 j c3).ownBlock = some b) w11 w12 := Upd.grown ((Upd.refl _ w11).alloc _) hgr (fun b hb _ => hb)
      have hob : ∀ b, (Value.slice a3 j c3).ownBlock = some b → w6.heap.size ≤ b := HstR.out.n3
      have hrowN12 := u12.at_ HrowN3.out (fun e => by have := hob N e; omega)
      have HS12 := Lib.hid (HS11.out.own u12 (fun b e => by have := hob b e; constructor <;> omega))
      have hst12 := HstR.out.nextU hwr HS11u.out (fun b e => by have e' : b = X ∨ b = L := e; omega) cn Hx11.out hown hgr (by simpa using hb12)
      have f40n : w12.cell? ⟨N, 40, none⟩ = some (.slice a3 j c3) := by have h := (nrow_at (o := 0) Hvwf.out (rangeAt_row hrowN12)).2.2.2; simp only [Nat.zero_add] at h; rw [← Hj.out]; exact h
      have z40n := frozen_of_row w12 N 40 _ _ hrowN12
      have hs40 := heap_setCell_same w12 N 40 _ _ (.slice a7 (j + 1) c7) hrowN12
      rw [dir_set40 v ks (ks ++ [y]) (j + 1) (by rw [List.length_append, Hj.out]; rfl) a3 a7 c3 c7 Hvwf.out] at hs40
      have hu13 : Upd (fun b => b = N) w12 (w12.setCell ⟨N, 40, none⟩ (.slice a7 (j + 1) c7)) := (Upd.refl _ _).setCell _ _ (fun _ => rfl)
      have HS13 := Lib.hid (HS12.out.set hu13 hNw hNR)
      have Hst13 := Lib.hid (hst12.doneW (hu13.mono (fun b _ e => by have e' : b = N := e; omega)))
      have Hs40 := Lib.hid hs40
      have hsz13 : w6.heap.size ≤ (w12.setCell ⟨N, 40, none⟩ (.slice a7 (j + 1) c7)).heap.size := by have h1 := HS11u.out.size; have h2 := u12.size; have h3 := hu13.size; omega
      have Hsz13 := Lib.hid hsz13
      clear hown hgr hb12 u12 hrowN12 hst12 hs40 hu13 hsz13 f40 HS12 HS11 Hx11 Hout11
      go_wp2
      go_roundw
      case rel =>
        refine ⟨j + 1, a7, c7, al ++ [(an, cn)], ks ++ [y], x8, lB, by rw [List.length_append, Hj.out]; rfl, by go_num, by omega, by omega, ?_, ?_, Hs40.out, Hst13.out, HS13.out, Hsz13.out⟩
        · rw [Hy.out, partsAll_push ks n j Hnm.out]; have := Hps.out; have := Hpa.out; omega
        · have h := Hwk.out.push Hok.out; rw [Hj.out] at h; rw [Hy.out]; exact h
      case measure => simp [intOf]; omega
  by_cases hB : k = 3
  · subst hB
    clear hA
    go_wp2_with fail
    refine (next_any w4 X _ x4 HS4.out.turn HS4.out.xlt 4095 (by decide) (by decide)).mono ?_
    rintro e5 w5 ⟨r5, x5, rfl, hr5, hx5, hX5, hu5⟩
    have HS5 := Lib.hid (HS4.out.next hx5 hX5 hu5)
    clear hX5 hu5 hx5 HS4
    obtain ⟨v, hv⟩ : ∃ v : Vl, v = ⟨3, 0, 1 + (r5 : Int), zeros⟩ := ⟨_, rfl⟩
    have Hb := Lib.hid (bldW3 (1 + (r5 : Int)))
    rw [← hv] at Hb
    have hvwf : v.wf := by rw [hv]; exact vwfW _ _ _ _ zeros_len (by omega) (by omega) (by omega)
    obtain ⟨A, hA⟩ : ∃ A : Array Value, A = v.cells.toArray := ⟨_, rfl⟩
    rw [← hA] at Hb
    have hAs := Lib.hid (show A.size = 35 by rw [hA, List.size_toArray]; exact v.cells_length hvwf)
    have hAo := Lib.hid (show A.all (·.oneCell') = true by rw [hA]; exact all_one v.cells_one)
    have HA := Lib.hid hA
    have Hv := Lib.hid hv
    clear hA hv hvwf
    go_wp2_with (first | (refine wpList_build_eq (by rfl) 24 #[(0, .const (.int .i64 3)), (2, .tmp 80)] rfl #[(0, .int .i64 3), (2, .int .i64 (1 + (r5 : Int)))] (by kernel_rfl) (.agg A) (Hb.out _) ?_) | (refine wpList_store_fresh rfl 24 _ _ rfl A rfl rfl (by rw [hAs.out]; kernel_rfl) (by rw [hAs.out]; rfl) hAo.out ?_))
    intro w6 hs6 hrow6 hb6
    obtain ⟨V, hV⟩ : ∃ V, V = w5.heap.size := ⟨_, rfl⟩
    rw [← hV, HA.out] at hrow6
    rw [← hV] at hs6
    rw [← hV]
    have HS6 := Lib.hid (HS5.out.below hb6)
    have hVw : w.heap.size ≤ V := by rw [hV]; exact HS5.out.upd.size
    have hVR : V ≠ R := by have := lt_heap HS5.out.room; omega
    have hVX : V ≠ X := by have := HS5.out.x0; omega
    have Hrow := Lib.hid hrow6
    clear hrow6 hb6 HS5 Hb hV
    go_wp2_with fail
    refine (next_any w6 X _ x5 HS6.out.turn HS6.out.xlt 32 (by decide) (by decide)).mono ?_
    rintro e7 w7 ⟨r7, x7, rfl, hr7, hx7, hX7, hu7⟩
    have HS7 := Lib.hid (HS6.out.next hx7 hX7 hu7)
    have Hrowq := Lib.hid (hu7.at_ Hrow.out hVX)
    replace Hrow := Hrowq
    clear Hrowq
    clear hX7 hu7 hx7 HS6
    go_wp2_with fail
    refine (next_any w7 X _ x7 HS7.out.turn HS7.out.xlt 256 (by decide) (by decide)).mono ?_
    rintro e8 w8 ⟨r8, x8, rfl, hr8, hx8, hX8, hu8⟩
    have HS8 := Lib.hid (HS7.out.next hx8 hX8 hu8)
    have Hrowq := Lib.hid (hu8.at_ Hrow.out hVX)
    replace Hrow := Hrowq
    clear Hrowq
    clear hX8 hu8 hx8 HS7
    obtain ⟨old, f0⟩ := vl_cell w8 V v r7 _ _ Hrow.out (by rw [Hv.out]; show _ < zeros.length; rw [zeros_len]; exact hr7)
    have z0 := frozen_of_row w8 V (3 + r7) _ _ Hrow.out
    have i1 : (0 : Int) ≤ (r7 : Int) := by omega
    have i2 : (r7 : Int) < 32 := by omega
    have e256 : (r8 : Int) % 256 = (r8 : Int) := by omega
    obtain ⟨u, hu⟩ : ∃ u : Vl, u = ⟨3, 0, 1 + (r5 : Int), zeros.set r7 (UInt8.ofNat r8)⟩ := ⟨_, rfl⟩
    have hst := heap_setCell_same w8 V (3 + r7) _ _ (.int .u8 (r8 : Nat)) Hrow.out
    rw [show v.cells.toArray.setIfInBounds (3 + r7) (.int .u8 (r8 : Nat)) = u.cells.toArray by rw [Hv.out, hu]; exact vl_byte _ _ _ _ _ _ (by rw [zeros_len]; exact hr7) hr8] at hst
    have huw : u.wf := by rw [hu]; exact vwfW _ _ _ _ (by rw [List.length_set]; rfl) (by omega) (by omega) (by omega)
    have hu35 := Lib.hid (u.cells_length huw)
    have HbN := Lib.hid (bldWN u huw.1)
    have hus : Upd (fun b => b = V) w8 (w8.setCell ⟨V, 3 + r7, none⟩ (.int .u8 (r8 : Nat))) := (Upd.refl _ _).setCell _ _ (fun _ => rfl)
    have HS9 := Lib.hid (HS8.out.set hus hVw hVR)
    have Hrv := Lib.hid (rangeAt_row hst)
    have hN41 := Lib.hid (row_len (n := leafN u noMk) (a := none) (c := 0) huw)
    have hN41s := Lib.hid (show ((leafN u noMk).row none 0).toArray.size = 41 by rw [List.size_toArray]; exact hN41.out)
    obtain ⟨C, hC⟩ : ∃ C : Array Value, C = ((leafN u noMk).row none 0).toArray := ⟨_, rfl⟩
    rw [← hC] at HbN hN41s
    have HC := Lib.hid hC
    have hCo := Lib.hid (show C.all (·.oneCell') = true by rw [hC]; exact all_one (nrow_one _ _ _ _ _ _))
    obtain ⟨U, hU⟩ : ∃ U : Array Value, U = u.cells.toArray := ⟨_, rfl⟩
    have HU := Lib.hid hU
    rw [← hU] at HbN
    have Hu := Lib.hid hu
    clear hst hus hC hU hu HS8
    go_wp2_with (first | (refine wpList_load_midg (by rfl) 24 (.tmp 11) rfl V 0 rfl u.cells _ Hrv.out Try.underlying24 rfl (by rw [hu35.out]; kernel_rfl) ?_; rw [← HU.out]) | (refine wpList_build_eq (by rfl) 30 #[(1, .tmp 89)] rfl #[(1, .agg U)] (by kernel_rfl) (.agg C) (HbN.out _) ?_) | (refine store_rowW rfl 30 (.tmp 6) (.tmp 90) rfl R C rfl rfl 30 Z HS9.out.room (by rw [hN41s.out]; kernel_rfl) (by rw [hN41s.out, hZs.out]) hCo.out ?_))
    intro wz hrz huz
    have hdn := HS9.out.done huz
    have hxz := HS9.out.xlt
    go_wp2
    refine bodyPost_ret (results_cell_row (P := Try.prog) Try.results96 _ _ R 30 C (0, 0) _ rfl hrz Try.underlying30 rfl (by rw [hN41s.out]; kernel_rfl)) rfl ⟨leafN u noMk, none, 0, _, _, by rw [HC.out], leaf_in _ _ _ _ huw noMkW, rfl, leaf_ok _ _ _ (by omega) (by rw [Hu.out]; exact own_link _ _ (by omega) (by omega)), by rw [leaf_parts]; omega, hxz, hdn.1, hdn.2.1, hdn.2.2⟩
  have e3 : ((k : Int) == 3) = false := beq_f (by omega)
  have hC : (3 ≤ (k : Int)) ∨ ((k : Int) < 3 ∧ 9 ≤ (lv : Int)) := by omega
  rcases hC with hC | ⟨hC, hC2⟩
  all_goals
    clear hA hB
    go_wp2_with fail
    refine (next_any w4 X _ x4 HS4.out.turn HS4.out.xlt 9 (by decide) (by decide)).mono ?_
    rintro e5 w5 ⟨r5, x5, rfl, hr5, hx5, hX5, hu5⟩
    have HS5 := Lib.hid (HS4.out.next hx5 hX5 hu5)
    clear hX5 hu5 hx5 HS4
    go_wp2_with fail
    refine (next_any w5 X _ x5 HS5.out.turn HS5.out.xlt 1048576 (by decide) (by decide)).mono ?_
    rintro e6 w6 ⟨r6, x6, rfl, hr6, hx6, hX6, hu6⟩
    have HS6 := Lib.hid (HS5.out.next hx6 hX6 hu6)
    clear hX6 hu6 hx6 HS5
    obtain ⟨v, hv⟩ : ∃ v : Vl, v = ⟨2, (r5 : Nat), (r6 : Nat), zeros⟩ := ⟨_, rfl⟩
    have Hb := Lib.hid (bldW2 (r5 : Nat) (r6 : Nat))
    rw [← hv] at Hb
    have hvwf : v.wf := by rw [hv]; exact vwfW _ _ _ _ zeros_len (by omega) (by omega) (by omega)
    obtain ⟨A, hA⟩ : ∃ A : Array Value, A = v.cells.toArray := ⟨_, rfl⟩
    rw [← hA] at Hb
    have hAs := Lib.hid (show A.size = 35 by rw [hA, List.size_toArray]; exact v.cells_length hvwf)
    have hAo := Lib.hid (show A.all (·.oneCell') = true by rw [hA]; exact all_one v.cells_one)
    have HA := Lib.hid hA
    have Hv := Lib.hid hv
    clear hA hv hvwf
    go_wp2_with (first | (refine wpList_build_eq (by rfl) 24 #[(0, .const (.int .i64 2)), (1, .tmp 92), (2, .tmp 94)] rfl #[(0, .int .i64 2), (1, .int .i64 (r5 : Nat)), (2, .int .i64 (r6 : Nat))] (by kernel_rfl) (.agg A) (Hb.out _) ?_) | (refine wpList_store_fresh rfl 24 _ _ rfl A rfl rfl (by rw [hAs.out]; kernel_rfl) (by rw [hAs.out]; rfl) hAo.out ?_))
    intro w7 hs7 hrow7 hb7
    obtain ⟨V, hV⟩ : ∃ V, V = w6.heap.size := ⟨_, rfl⟩
    rw [← hV, HA.out] at hrow7
    rw [← hV] at hs7
    rw [← hV]
    have HS7 := Lib.hid (HS6.out.below hb7)
    have hVw : w.heap.size ≤ V := by rw [hV]; exact HS6.out.upd.size
    have hVR : V ≠ R := by have := lt_heap HS6.out.room; omega
    have hVX : V ≠ X := by have := HS6.out.x0; omega
    have Hrow := Lib.hid hrow7
    clear hrow7 hb7 HS6 Hb hV
    go_wp2_with fail
    refine (next_any w7 X _ x6 HS7.out.turn HS7.out.xlt 32 (by decide) (by decide)).mono ?_
    rintro e8 w8 ⟨r8, x8, rfl, hr8, hx8, hX8, hu8⟩
    have HS8 := Lib.hid (HS7.out.next hx8 hX8 hu8)
    have Hrowq := Lib.hid (hu8.at_ Hrow.out hVX)
    replace Hrow := Hrowq
    clear Hrowq
    clear hX8 hu8 hx8 HS7
    go_wp2_with fail
    refine (next_any w8 X _ x8 HS8.out.turn HS8.out.xlt 256 (by decide) (by decide)).mono ?_
    rintro e9 w9 ⟨r9, x9, rfl, hr9, hx9, hX9, hu9⟩
    have HS9 := Lib.hid (HS8.out.next hx9 hX9 hu9)
    have Hrowq := Lib.hid (hu9.at_ Hrow.out hVX)
    replace Hrow := Hrowq
    clear Hrowq
    clear hX9 hu9 hx9 HS8
    obtain ⟨old, f0⟩ := vl_cell w9 V v r8 _ _ Hrow.out (by rw [Hv.out]; show _ < zeros.length; rw [zeros_len]; exact hr8)
    have z0 := frozen_of_row w9 V (3 + r8) _ _ Hrow.out
    have i1 : (0 : Int) ≤ (r8 : Int) := by omega
    have i2 : (r8 : Int) < 32 := by omega
    have e256 : (r9 : Int) % 256 = (r9 : Int) := by omega
    obtain ⟨u, hu⟩ : ∃ u : Vl, u = ⟨2, (r5 : Nat), (r6 : Nat), zeros.set r8 (UInt8.ofNat r9)⟩ := ⟨_, rfl⟩
    have hst := heap_setCell_same w9 V (3 + r8) _ _ (.int .u8 (r9 : Nat)) Hrow.out
    rw [show v.cells.toArray.setIfInBounds (3 + r8) (.int .u8 (r9 : Nat)) = u.cells.toArray by rw [Hv.out, hu]; exact vl_byte _ _ _ _ _ _ (by rw [zeros_len]; exact hr8) hr9] at hst
    have huw : u.wf := by rw [hu]; exact vwfW _ _ _ _ (by rw [List.length_set]; rfl) (by omega) (by omega) (by omega)
    have hu35 := Lib.hid (u.cells_length huw)
    have HbN := Lib.hid (bldWN u huw.1)
    have hus : Upd (fun b => b = V) w9 (w9.setCell ⟨V, 3 + r8, none⟩ (.int .u8 (r9 : Nat))) := (Upd.refl _ _).setCell _ _ (fun _ => rfl)
    have HS10 := Lib.hid (HS9.out.set hus hVw hVR)
    have Hrv := Lib.hid (rangeAt_row hst)
    have hN41 := Lib.hid (row_len (n := leafN u noMk) (a := none) (c := 0) huw)
    have hN41s := Lib.hid (show ((leafN u noMk).row none 0).toArray.size = 41 by rw [List.size_toArray]; exact hN41.out)
    obtain ⟨C, hC⟩ : ∃ C : Array Value, C = ((leafN u noMk).row none 0).toArray := ⟨_, rfl⟩
    rw [← hC] at HbN hN41s
    have HC := Lib.hid hC
    have hCo := Lib.hid (show C.all (·.oneCell') = true by rw [hC]; exact all_one (nrow_one _ _ _ _ _ _))
    obtain ⟨U, hU⟩ : ∃ U : Array Value, U = u.cells.toArray := ⟨_, rfl⟩
    have HU := Lib.hid hU
    rw [← hU] at HbN
    have Hu := Lib.hid hu
    clear hst hus hC hU hu HS9
    go_wp2_with (first | (refine wpList_load_midg (by rfl) 24 (.tmp 12) rfl V 0 rfl u.cells _ Hrv.out Try.underlying24 rfl (by rw [hu35.out]; kernel_rfl) ?_; rw [← HU.out]) | (refine wpList_build_eq (by rfl) 30 #[(1, .tmp 103)] rfl #[(1, .agg U)] (by kernel_rfl) (.agg C) (HbN.out _) ?_) | (refine store_freshW rfl 30 _ _ rfl w9.heap.size (by simp) C rfl rfl (by rw [hN41s.out]; kernel_rfl) (by rw [hN41s.out]; rfl) hCo.out ?_))
    intro w11 hs11 hrow11 hb11
    obtain ⟨N, hN⟩ : ∃ N, N = w9.heap.size := ⟨_, rfl⟩
    rw [← hN] at hrow11
    rw [← hN]
    have HS11 := Lib.hid (HS10.out.below (hb11.mono (by simp)))
    have hNw : w.heap.size ≤ N := by rw [hN]; have := HS10.out.upd.size; simpa using this
    have hNR : N ≠ R := by have := lt_heap HS10.out.room; simp at this; omega
    have hNX : N ≠ X := by have := HS10.out.x0; omega
    rw [HC.out] at hrow11
    have Hwf := Lib.hid huw
    replace Hrow := Lib.hid hrow11
    clear hrow11 hb11 HS10 hN HbN Hrv huw hs11 f0 z0 hVX hVR hVw e256
    go_wp2_with fail
    refine (next_any w11 X _ x9 HS11.out.turn HS11.out.xlt 2 (by decide) (by decide)).mono ?_
    rintro e12 w12 ⟨r12, x12, rfl, hr12, hx12, hX12, hu12⟩
    have HS12 := Lib.hid (HS11.out.next hx12 hX12 hu12)
    have Hrowq := Lib.hid (hu12.at_ Hrow.out hNX)
    replace Hrow := Hrowq
    clear Hrowq
    clear hX12 hu12 hx12 HS11
    by_cases h0 : r12 = 0
    · subst h0
      go_wp2_with fail
      refine (next_any w12 X _ x12 HS12.out.turn HS12.out.xlt 2 (by decide) (by decide)).mono ?_
      rintro e13 w13 ⟨r13, x13, rfl, hr13, hx13, hX13, hu13⟩
      have HS13 := Lib.hid (HS12.out.next hx13 hX13 hu13)
      have Hrowq := Lib.hid (hu13.at_ Hrow.out hNX)
      replace Hrow := Hrowq
      clear Hrowq
      clear hX13 hu13 hx13 HS12
      go_wp2_with fail
      refine (next_any w13 X _ x13 HS13.out.turn HS13.out.xlt 1048576 (by decide) (by decide)).mono ?_
      rintro e14 w14 ⟨r14, x14, rfl, hr14, hx14, hX14, hu14⟩
      have HS14 := Lib.hid (HS13.out.next hx14 hX14 hu14)
      have Hrowq := Lib.hid (hu14.at_ Hrow.out hNX)
      replace Hrow := Hrowq
      clear Hrowq
      clear hX14 hu14 hx14 HS13
      go_wp2_with fail
      refine (next_any w14 X _ x14 HS14.out.turn HS14.out.xlt 1048576 (by decide) (by decide)).mono ?_
      rintro e15 w15 ⟨r15, x15, rfl, hr15, hx15, hX15, hu15⟩
      have HS15 := Lib.hid (HS14.out.next hx15 hX15 hu15)
      have Hrowq := Lib.hid (hu15.at_ Hrow.out hNX)
      replace Hrow := Hrowq
      clear Hrowq
      clear hX15 hu15 hx15 HS14
      have Hbm := Lib.hid (bldWM (1 + (r14 : Int)) (1 + (r15 : Int)))
      have hmk := mk_ok r14 r15 hr14 hr15
      have hj2 : r13 = 0 ∨ r13 = 1 := by omega
      rcases hj2 with hj2 | hj2
      · subst hj2
        obtain ⟨o1, f1⟩ := nd_cell w15 N (leafN u noMk) none 0 36 Hwf.out Hrow.out (by omega)
        obtain ⟨o2, f2⟩ := nd_cell w15 N (leafN u noMk) none 0 37 Hwf.out Hrow.out (by omega)
        have z1 := frozen_of_row w15 N 36 _ _ Hrow.out
        have z2 := frozen_of_row w15 N 37 _ _ Hrow.out
        have hrm := row_mark0 w15 N u (1 + (r14 : Int)) (1 + (r15 : Int)) Hwf.out Hrow.out
        change ((w15.setCell ⟨N, 36, none⟩ (.int .i64 (1 + (r14 : Int)))).setCell ⟨N, 37, none⟩ (.int .i64 (1 + (r15 : Int)))).heap[N]? = _ at hrm
        have hun1 : Upd (fun b => b = N) w15 (w15.setCell ⟨N, 36, none⟩ (.int .i64 (1 + (r14 : Int)))) := (Upd.refl _ _).setCell _ _ (fun _ => rfl)
        have hun2 : Upd (fun b => b = N) (w15.setCell ⟨N, 36, none⟩ (.int .i64 (1 + (r14 : Int)))) ((w15.setCell ⟨N, 36, none⟩ (.int .i64 (1 + (r14 : Int)))).setCell ⟨N, 37, none⟩ (.int .i64 (1 + (r15 : Int)))) := (Upd.refl _ _).setCell _ _ (fun _ => rfl)
        have hun := hun1.trans hun2
        have HS16 := Lib.hid (HS15.out.set hun hNw hNR)
        replace Hrow := Lib.hid hrm
        clear hrm hun hun1 hun2 HS15
        have hmw : mwf (⟨1 + (r14 : Int), 1 + (r15 : Int)⟩, ⟨0, 0⟩) := by unfold mwf i64; dsimp only; omega
        have hn41 := Lib.hid (row_len (n := leafN u (⟨1 + (r14 : Int), 1 + (r15 : Int)⟩, ⟨0, 0⟩)) (a := none) (c := 0) Hwf.out)
        obtain ⟨D, hD⟩ : ∃ D : Array Value, D = ((leafN u (⟨1 + (r14 : Int), 1 + (r15 : Int)⟩, ⟨0, 0⟩)).row none 0).toArray := ⟨_, rfl⟩
        have Ds := Lib.hid (show D.size = 41 by rw [hD, List.size_toArray]; exact hn41.out)
        have Do := Lib.hid (show D.all (·.oneCell') = true by rw [hD]; exact all_one (nrow_one _ _ _ _ _ _))
        have HD := Lib.hid hD
        clear hD
        go_wp2_with (first | (refine wpList_build_eq (by rfl) 26 #[(0, .tmp 112), (1, .tmp 115)] rfl #[(0, .int .i64 (1 + (r14 : Int))), (1, .int .i64 (1 + (r15 : Int)))] (by kernel_rfl) _ (Hbm.out _) ?_) | (refine wpList_load_midg (by rfl) 30 (.tmp 13) rfl N 0 rfl ((leafN u (⟨1 + (r14 : Int), 1 + (r15 : Int)⟩, ⟨0, 0⟩)).row none 0) _ (rangeAt_row Hrow.out) Try.underlying30 rfl (by rw [hn41.out]; kernel_rfl) ?_; rw [← HD.out]) | (refine store_rowW rfl 30 (.tmp 6) (.tmp 119) rfl R D rfl rfl 30 Z HS16.out.room (by rw [Ds.out]; kernel_rfl) (by rw [Ds.out, hZs.out]) Do.out ?_))
        intro wz hrz huz
        have hdn := HS16.out.done huz
        have hxz := HS16.out.xlt
        go_wp2
        refine bodyPost_ret (results_cell_row (P := Try.prog) Try.results96 _ _ R 30 D (0, 0) _ rfl hrz Try.underlying30 rfl (by rw [Ds.out]; kernel_rfl)) rfl ⟨leafN u (⟨1 + (r14 : Int), 1 + (r15 : Int)⟩, ⟨0, 0⟩), none, 0, _, _, by rw [HD.out], leaf_in _ _ _ _ Hwf.out hmw, rfl, leaf_ok _ _ _ (by omega) (by rw [Hu.out]; exact own_file _ _ _ _ (by omega) (by omega) (by omega) (by omega) hmk mk_no), by rw [leaf_parts]; omega, hxz, hdn.1, hdn.2.1, hdn.2.2⟩
      · subst hj2
        obtain ⟨o1, f1⟩ := nd_cell w15 N (leafN u noMk) none 0 38 Hwf.out Hrow.out (by omega)
        obtain ⟨o2, f2⟩ := nd_cell w15 N (leafN u noMk) none 0 39 Hwf.out Hrow.out (by omega)
        have z1 := frozen_of_row w15 N 38 _ _ Hrow.out
        have z2 := frozen_of_row w15 N 39 _ _ Hrow.out
        have hrm := row_mark1 w15 N u (1 + (r14 : Int)) (1 + (r15 : Int)) Hwf.out Hrow.out
        change ((w15.setCell ⟨N, 38, none⟩ (.int .i64 (1 + (r14 : Int)))).setCell ⟨N, 39, none⟩ (.int .i64 (1 + (r15 : Int)))).heap[N]? = _ at hrm
        have hun1 : Upd (fun b => b = N) w15 (w15.setCell ⟨N, 38, none⟩ (.int .i64 (1 + (r14 : Int)))) := (Upd.refl _ _).setCell _ _ (fun _ => rfl)
        have hun2 : Upd (fun b => b = N) (w15.setCell ⟨N, 38, none⟩ (.int .i64 (1 + (r14 : Int)))) ((w15.setCell ⟨N, 38, none⟩ (.int .i64 (1 + (r14 : Int)))).setCell ⟨N, 39, none⟩ (.int .i64 (1 + (r15 : Int)))) := (Upd.refl _ _).setCell _ _ (fun _ => rfl)
        have hun := hun1.trans hun2
        have HS16 := Lib.hid (HS15.out.set hun hNw hNR)
        replace Hrow := Lib.hid hrm
        clear hrm hun hun1 hun2 HS15
        have hmw : mwf (⟨0, 0⟩, ⟨1 + (r14 : Int), 1 + (r15 : Int)⟩) := by unfold mwf i64; dsimp only; omega
        have hn41 := Lib.hid (row_len (n := leafN u (⟨0, 0⟩, ⟨1 + (r14 : Int), 1 + (r15 : Int)⟩)) (a := none) (c := 0) Hwf.out)
        obtain ⟨D, hD⟩ : ∃ D : Array Value, D = ((leafN u (⟨0, 0⟩, ⟨1 + (r14 : Int), 1 + (r15 : Int)⟩)).row none 0).toArray := ⟨_, rfl⟩
        have Ds := Lib.hid (show D.size = 41 by rw [hD, List.size_toArray]; exact hn41.out)
        have Do := Lib.hid (show D.all (·.oneCell') = true by rw [hD]; exact all_one (nrow_one _ _ _ _ _ _))
        have HD := Lib.hid hD
        clear hD
        go_wp2_with (first | (refine wpList_build_eq (by rfl) 26 #[(0, .tmp 112), (1, .tmp 115)] rfl #[(0, .int .i64 (1 + (r14 : Int))), (1, .int .i64 (1 + (r15 : Int)))] (by kernel_rfl) _ (Hbm.out _) ?_) | (refine wpList_load_midg (by rfl) 30 (.tmp 13) rfl N 0 rfl ((leafN u (⟨0, 0⟩, ⟨1 + (r14 : Int), 1 + (r15 : Int)⟩)).row none 0) _ (rangeAt_row Hrow.out) Try.underlying30 rfl (by rw [hn41.out]; kernel_rfl) ?_; rw [← HD.out]) | (refine store_rowW rfl 30 (.tmp 6) (.tmp 119) rfl R D rfl rfl 30 Z HS16.out.room (by rw [Ds.out]; kernel_rfl) (by rw [Ds.out, hZs.out]) Do.out ?_))
        intro wz hrz huz
        have hdn := HS16.out.done huz
        have hxz := HS16.out.xlt
        go_wp2
        refine bodyPost_ret (results_cell_row (P := Try.prog) Try.results96 _ _ R 30 D (0, 0) _ rfl hrz Try.underlying30 rfl (by rw [Ds.out]; kernel_rfl)) rfl ⟨leafN u (⟨0, 0⟩, ⟨1 + (r14 : Int), 1 + (r15 : Int)⟩), none, 0, _, _, by rw [HD.out], leaf_in _ _ _ _ Hwf.out hmw, rfl, leaf_ok _ _ _ (by omega) (by rw [Hu.out]; exact own_file _ _ _ _ (by omega) (by omega) (by omega) (by omega) mk_no hmk), by rw [leaf_parts]; omega, hxz, hdn.1, hdn.2.1, hdn.2.2⟩
    · have e0 : ((r12 : Int) == 0) = false := beq_f (by omega)
      have hmw : mwf noMk := noMkW
      have hn41 := Lib.hid (row_len (n := leafN u noMk) (a := none) (c := 0) Hwf.out)
      obtain ⟨D, hD⟩ : ∃ D : Array Value, D = ((leafN u noMk).row none 0).toArray := ⟨_, rfl⟩
      have Ds := Lib.hid (show D.size = 41 by rw [hD, List.size_toArray]; exact hn41.out)
      have Do := Lib.hid (show D.all (·.oneCell') = true by rw [hD]; exact all_one (nrow_one _ _ _ _ _ _))
      have HD := Lib.hid hD
      clear hD
      go_wp2_with (first | (refine wpList_load_midg (by rfl) 30 (.tmp 13) rfl N 0 rfl ((leafN u noMk).row none 0) _ (rangeAt_row Hrow.out) Try.underlying30 rfl (by rw [hn41.out]; kernel_rfl) ?_; rw [← HD.out]) | (refine store_rowW rfl 30 (.tmp 6) (.tmp 119) rfl R D rfl rfl 30 Z HS12.out.room (by rw [Ds.out]; kernel_rfl) (by rw [Ds.out, hZs.out]) Do.out ?_))
      intro wz hrz huz
      have hdn := HS12.out.done huz
      have hxz := HS12.out.xlt
      go_wp2
      refine bodyPost_ret (results_cell_row (P := Try.prog) Try.results96 _ _ R 30 D (0, 0) _ rfl hrz Try.underlying30 rfl (by rw [Ds.out]; kernel_rfl)) rfl ⟨leafN u noMk, none, 0, _, _, by rw [HD.out], leaf_in _ _ _ _ Hwf.out hmw, rfl, leaf_ok _ _ _ (by omega) (by rw [Hu.out]; exact own_file _ _ _ _ (by omega) (by omega) (by omega) (by omega) mk_no mk_no), by rw [leaf_parts]; omega, hxz, hdn.1, hdn.2.1, hdn.2.2⟩
set_option maxHeartbeats 8000000 in
set_option maxRecDepth 100000 in
theorem wood_root (d lv : Nat) (hlv : lv + d = 9) (h1 : lv = 0) (ih : ∀ e, d = e + 1 → WoodAt e (lv + 1)) : WoodAt d lv := by
  intro w X L x l hX hL hXL hx hl1 hl2
  obtain ⟨l1, rfl⟩ : ∃ l1, l = l1 + 1 := ⟨l - 1, by omega⟩
  have Ih := Lib.hid ih
  clear ih
  have q0 : ((lv : Int) == 0) = true := beq_t (by omega)
  have hd1 : 1 ≤ d := by omega
  clear h1
  go_enter Try.func96, Try.ntmps96
  go_upto_region 1 with fail
  have hres := heap_alloc_new w (.cells #[.string ⟨#[]⟩, .int .i64 0, .int .i64 0, .int .i64 0, .int .u8 0, .int .u8 0, .int .u8 0, .int .u8 0, .int .u8 0, .int .u8 0, .int .u8 0, .int .u8 0, .int .u8 0, .int .u8 0, .int .u8 0, .int .u8 0, .int .u8 0, .int .u8 0, .int .u8 0, .int .u8 0, .int .u8 0, .int .u8 0, .int .u8 0, .int .u8 0, .int .u8 0, .int .u8 0, .int .u8 0, .int .u8 0, .int .u8 0, .int .u8 0, .int .u8 0, .int .u8 0, .int .u8 0, .int .u8 0, .int .u8 0, .int .u8 0, .int .i64 0, .int .i64 0, .int .i64 0, .int .i64 0, .slice none 0 0] 30)
  have hbl := on_alloc (Below.refl _ w) (.cells #[.string ⟨#[]⟩, .int .i64 0, .int .i64 0, .int .i64 0, .int .u8 0, .int .u8 0, .int .u8 0, .int .u8 0, .int .u8 0, .int .u8 0, .int .u8 0, .int .u8 0, .int .u8 0, .int .u8 0, .int .u8 0, .int .u8 0, .int .u8 0, .int .u8 0, .int .u8 0, .int .u8 0, .int .u8 0, .int .u8 0, .int .u8 0, .int .u8 0, .int .u8 0, .int .u8 0, .int .u8 0, .int .u8 0, .int .u8 0, .int .u8 0, .int .u8 0, .int .u8 0, .int .u8 0, .int .u8 0, .int .u8 0, .int .u8 0, .int .i64 0, .int .i64 0, .int .i64 0, .int .i64 0, .slice none 0 0] 30)
  have hsz : (w.alloc (.cells #[.string ⟨#[]⟩, .int .i64 0, .int .i64 0, .int .i64 0, .int .u8 0, .int .u8 0, .int .u8 0, .int .u8 0, .int .u8 0, .int .u8 0, .int .u8 0, .int .u8 0, .int .u8 0, .int .u8 0, .int .u8 0, .int .u8 0, .int .u8 0, .int .u8 0, .int .u8 0, .int .u8 0, .int .u8 0, .int .u8 0, .int .u8 0, .int .u8 0, .int .u8 0, .int .u8 0, .int .u8 0, .int .u8 0, .int .u8 0, .int .u8 0, .int .u8 0, .int .u8 0, .int .u8 0, .int .u8 0, .int .u8 0, .int .u8 0, .int .i64 0, .int .i64 0, .int .i64 0, .int .i64 0, .slice none 0 0] 30)).heap.size = w.heap.size + 1 := by simp
  generalize w.alloc (.cells #[.string ⟨#[]⟩, .int .i64 0, .int .i64 0, .int .i64 0, .int .u8 0, .int .u8 0, .int .u8 0, .int .u8 0, .int .u8 0, .int .u8 0, .int .u8 0, .int .u8 0, .int .u8 0, .int .u8 0, .int .u8 0, .int .u8 0, .int .u8 0, .int .u8 0, .int .u8 0, .int .u8 0, .int .u8 0, .int .u8 0, .int .u8 0, .int .u8 0, .int .u8 0, .int .u8 0, .int .u8 0, .int .u8 0, .int .u8 0, .int .u8 0, .int .u8 0, .int .u8 0, .int .u8 0, .int .u8 0, .int .u8 0, .int .u8 0, .int .i64 0, .int .i64 0, .int .i64 0, .int .i64 0, .slice none 0 0] 30) = w2 at hres hbl hsz ⊢
  obtain ⟨Z, hZ⟩ : ∃ Z : Array Value, Z = #[.string ⟨#[]⟩, .int .i64 0, .int .i64 0, .int .i64 0, .int .u8 0, .int .u8 0, .int .u8 0, .int .u8 0, .int .u8 0, .int .u8 0, .int .u8 0, .int .u8 0, .int .u8 0, .int .u8 0, .int .u8 0, .int .u8 0, .int .u8 0, .int .u8 0, .int .u8 0, .int .u8 0, .int .u8 0, .int .u8 0, .int .u8 0, .int .u8 0, .int .u8 0, .int .u8 0, .int .u8 0, .int .u8 0, .int .u8 0, .int .u8 0, .int .u8 0, .int .u8 0, .int .u8 0, .int .u8 0, .int .u8 0, .int .u8 0, .int .i64 0, .int .i64 0, .int .i64 0, .int .i64 0, .slice none 0 0] := ⟨_, rfl⟩
  obtain ⟨R, hR⟩ : ∃ R, R = w.heap.size := ⟨_, rfl⟩
  have hZs := Lib.hid (show Z.size = 41 by rw [hZ]; rfl)
  rw [← hZ, ← hR] at hres
  rw [← hR]
  have St2 : St w X L R Z w2 x (l1 + 1) := ⟨hx, (hbl.block X (lt_heap hX)).trans hX, (hbl.block L (lt_heap hL)).trans hL, hres, Upd.below hbl _, lt_heap hX, lt_heap hL, by omega, hXL⟩
  have fl := cell_of_row w2 L 0 _ _ _ St2.left
  simp at fl
  have zl := frozen_of_row w2 L 0 _ _ St2.left
  have hs3 := heap_setCell_same w2 L 0 _ _ (.int .i64 (l1 : Nat)) St2.left
  have hu3 : Upd (fun b => b = L) w2 (w2.setCell ⟨L, 0, none⟩ (.int .i64 (l1 : Nat))) := (Upd.refl _ _).setCell _ _ (fun _ => rfl)
  have St3 : St w X L R Z (w2.setCell ⟨L, 0, none⟩ (.int .i64 (l1 : Nat))) x l1 := ⟨hx, hu3.at_ St2.turn hXL, by simpa using hs3, hu3.at_ St2.room (fun e => by have := St2.l0; have := St2.r0; omega), St2.upd.trans (hu3.mono (fun b _ e => Or.inr e)), St2.x0, St2.l0, St2.r0, hXL⟩
  have HS3 := Lib.hid St3
  have Hw2 := Lib.hid (show w.heap.size ≤ w2.heap.size by omega)
  have hX0 := hx
  have hRw : w.heap.size ≤ R := by omega
  have HR := Lib.hid hR
  clear hs3 hu3 St3 St2 hres hbl hZ hX hL hR
  go_wp2_with fail
  generalize w2.setCell ⟨L, 0, none⟩ (.int .i64 (l1 : Nat)) = w3 at HS3 ⊢
  refine (next_any w3 X _ x HS3.out.turn hX0 8 (by decide) (by decide)).mono ?_
  rintro e w4 ⟨k, x4, rfl, hk, hx4, hX4, hu4⟩
  have HS4 := Lib.hid (HS3.out.next hx4 hX4 hu4)
  clear hX4 hu4 HS3 fl zl
  obtain ⟨d', rfl⟩ : ∃ e, d = e + 1 := ⟨d - 1, by omega⟩
  have Hih := Lib.hid (Ih.out d' rfl)
  clear Ih
  obtain ⟨i0, hi, hz0, hz1, hz2⟩ := info_parts info_nodeF
  go_wp2_with fail
  refine (next_any w4 X _ x4 HS4.out.turn HS4.out.xlt 9 (by decide) (by decide)).mono ?_
  rintro e5 w5 ⟨r5, x5, rfl, hr5, hx5, hX5, hu5⟩
  have HS5 := Lib.hid (HS4.out.next hx5 hX5 hu5)
  clear hX5 hu5 hx5 HS4
  obtain ⟨v, hv⟩ : ∃ v : Vl, v = ⟨1, (r5 : Nat), 0, zeros⟩ := ⟨_, rfl⟩
  have Hb := Lib.hid (bldW1 (r5 : Nat))
  rw [← hv] at Hb
  have hvwf : v.wf := by rw [hv]; exact vwfW _ _ _ _ zeros_len (by omega) (by omega) (by omega)
  have HbN := Lib.hid (bldWN v hvwf.1)
  obtain ⟨A, hA⟩ : ∃ A : Array Value, A = v.cells.toArray := ⟨_, rfl⟩
  rw [← hA] at Hb HbN
  obtain ⟨C, hC⟩ : ∃ C : Array Value, C = ((leafN v noMk).row none 0).toArray := ⟨_, rfl⟩
  rw [← hC] at HbN
  have hCs := Lib.hid (show C.size = 41 by rw [hC, List.size_toArray]; exact row_len (n := leafN v noMk) hvwf)
  have hCo := Lib.hid (show C.all (·.oneCell') = true by rw [hC]; exact all_one (nrow_one _ _ _ _ _ _))
  have HC := Lib.hid hC
  have Hv := Lib.hid hv
  have Hvwf := Lib.hid hvwf
  clear hA hC hv hvwf
  go_wp2_with (first | (refine wpList_build_eq (by rfl) 24 #[(0, .const (.int .i64 1)), (1, .tmp 34)] rfl #[(0, .int .i64 1), (1, .int .i64 (r5 : Nat))] (by kernel_rfl) (.agg A) (Hb.out _) ?_) | (refine wpList_build_eq (by rfl) 30 #[(1, .tmp 35)] rfl #[(1, .agg A)] (by kernel_rfl) (.agg C) (HbN.out _) ?_) | (refine wpList_store_fresh rfl 30 _ _ rfl C rfl rfl (by rw [hCs.out]; kernel_rfl) (by rw [hCs.out]; rfl) hCo.out ?_))
  intro w6 hs6 hrow6 hb6
  obtain ⟨N, hN⟩ : ∃ N, N = w5.heap.size := ⟨_, rfl⟩
  rw [← hN, HC.out] at hrow6
  rw [← hN] at hs6
  rw [← hN]
  have HS6 := Lib.hid (HS5.out.below hb6)
  have hNw : w.heap.size ≤ N := by rw [hN]; exact HS5.out.upd.size
  have hNR : N ≠ R := by have := lt_heap HS5.out.room; omega
  have hNX : N ≠ X := by have := HS5.out.x0; omega
  have hNL : N ≠ L := by have := HS5.out.l0; omega
  have hN6 : N < w6.heap.size := by omega
  have hR6 : R < w6.heap.size := lt_heap HS6.out.room
  have hX6 : X < w6.heap.size := lt_heap HS6.out.turn
  have hL6 : L < w6.heap.size := lt_heap HS6.out.left
  have hw6 : w.heap.size ≤ w6.heap.size := by omega
  have Hrow6 := Lib.hid hrow6
  have Hxl6 := HS6.out.xlt
  clear hrow6 hb6 hN Hb HbN HC hCs hCo HS5 hs6
  go_wp2_with fail
  go_loopw [9] (fun i wr => ∃ (j : Nat) (a3 : Option Addr) (c3 : Nat) (al : List (Option Addr × Nat)) (ks : List Nd) (xr lr : Nat), ks.length = j ∧ i = .int .i64 (j : Nat) ∧ j + lr ≤ l1 ∧ partsAll ks + 5 * lr ≤ 5 * l1 ∧ WoodKids ks (lv + 1) ∧ wr.heap[N]? = some (.cells ((dirN v ks).row a3 c3).toArray 30 (0, 0)) ∧ CopySt w6 wr d' j a3 c3 ks al ∧ St w X L R Z wr xr lr ∧ w6.heap.size ≤ wr.heap.size) (fun i _ => 4000 - (intOf i).toNat)
  case atStart => exact ⟨0, none, 0, [], [], x5, l1, rfl, rfl, by omega, by show 0 + _ ≤ _; omega, woodKids_nil _, Hrow6.out, ⟨Own.nil _ _ _, ⟨rfl, fun i k a c h => by simp at h⟩, fun b hb => by simp [Value.ownBlock] at hb⟩, HS6.out, Nat.le_refl _⟩
  case round =>
    obtain ⟨j, a3, c3, al, ks, xr, lr, hj, rfl, hjl, hpa, hwk, hrow, hst, hsr, hwr⟩ := hrel
    have HstR := Lib.hid hst
    have Hj := Lib.hid hj
    have Hpa := Lib.hid hpa
    have Hwk := Lib.hid hwk
    have Hrow := Lib.hid hrow
    have Hst := Lib.hid hst
    have HSr := Lib.hid hsr
    have fl := cell_of_row wr L 0 _ _ _ hsr.left
    simp at fl
    have h9999 : (j : Int) < 9999 := by omega
    clear hj hpa hwk hrow hst hsr HS6 Hrow6
    by_cases hl0 : lr = 0
    · subst hl0
      have hn41 := Lib.hid (row_len (n := dirN v ks) (a := a3) (c := c3) Hvwf.out)
      obtain ⟨D, hD⟩ : ∃ D : Array Value, D = ((dirN v ks).row a3 c3).toArray := ⟨_, rfl⟩
      have Ds := Lib.hid (show D.size = 41 by rw [hD, List.size_toArray]; exact hn41.out)
      have Do := Lib.hid (show D.all (·.oneCell') = true by rw [hD]; exact all_one (nrow_one _ _ _ _ _ _))
      have HD := Lib.hid hD
      clear hD
      go_wp2_with (first | (refine wpList_load_midg (by rfl) 30 (.tmp 8) rfl N 0 rfl ((dirN v ks).row a3 c3) _ (rangeAt_row Hrow.out) Try.underlying30 rfl (by rw [hn41.out]; kernel_rfl) ?_; rw [← HD.out]) | (refine store_rowW rfl 30 (.tmp 6) (.tmp 74) rfl R D rfl rfl 30 Z HSr.out.room (by rw [Ds.out]; kernel_rfl) (by rw [Ds.out, hZs.out]) Do.out ?_))
      intro wz hrz huz
      have hdn := HSr.out.done huz
      have hxz := HSr.out.xlt
      go_wp2
      refine bodyPost_ret (results_cell_row (P := Try.prog) Try.results96 _ _ R 30 D (0, 0) _ rfl hrz Try.underlying30 rfl (by rw [Ds.out]; kernel_rfl)) rfl ⟨dirN v ks, a3, c3, _, _, by rw [HD.out], ⟨Hvwf.out, noMkW, by show (0 : Nat) ≤ _; omega, by show ks.length ≤ _; rw [Hj.out]; omega, CopySt.kids (d := d' + 1) Hst.out hw6 (huz.mono (fun b _ hb => by have hb' : b = R := hb; omega)) (fun h0 => absurd h0 (by omega))⟩, rfl, woodOk_of _ _ (by omega) (by rw [Hv.out]; exact own_dir _ (by omega) (by omega) _) Hwk.out (by show ks.length ≤ _; rw [Hj.out]; omega), by rw [dir_parts]; have := Hpa.out; omega, hxz, hdn.1, hdn.2.1, hdn.2.2⟩
    have b1 : (0 : Int) < (lr : Int) := by omega
    have hw7 := hwr
    have HuA := Lib.hid (Upd.refl (fun b => b = X ∨ b = L) wr)
    have hkid := Hih.out wr X L xr lr HSr.out.turn HSr.out.left hXL HSr.out.xlt (by omega) (by omega)
    rw [show ((lv + 1 : Nat) : Int) = (lv : Int) + 1 by omega] at hkid
    have Hkid := Lib.hid hkid
    clear hkid
    go_wp2_with fail
    refine Hkid.out.mono ?_
    rintro e8 w8 ⟨n, an, cn, x8, lB, rfl, hn, hnm, hok, hps, hx8, hX8, hL8, hu8⟩
    have HS8 := Lib.hid (HSr.out.kid hx8 hX8 hL8 hu8)
    have Hrow8 := Lib.hid (hu8.at_ Hrow.out (fun e => e.elim hNX hNL))
    have Hst8 := Lib.hid (Hst.out.doneW (hu8.mono (fun b _ hb => by have hb' : b = X ∨ b = L := hb; omega)))
    have hw8 : wr.heap.size ≤ w8.heap.size := hu8.size
    have HuB := Lib.hid (HuA.out.trans hu8)
    have hwr8 : wr.heap.size ≤ w8.heap.size := HuB.out.size
    have hwrA := HuA.out.size
    have Hn := Lib.hid (hn.mono (G := fun b => wr.heap.size ≤ b ∧ b < w8.heap.size) (fun b hb hl => ⟨Nat.le_trans hwrA hb, hl⟩))
    have Hok := Lib.hid hok
    have Hnm := Lib.hid hnm
    have Hps := Lib.hid hps
    have hnp : 1 ≤ n.parts := by rw [parts_eq]; omega
    have hlB : lB + 1 ≤ lr := by omega
    obtain ⟨D, hD⟩ : ∃ D : Array Value, D = (n.row an cn).toArray := ⟨_, rfl⟩
    have Ds := Lib.hid (show D.size = 41 by rw [hD, List.size_toArray]; exact row_len hn.vwf)
    have Do := Lib.hid (show D.all (·.oneCell') = true by rw [hD]; exact all_one (nrow_one _ _ _ _ _ _))
    have HD := Lib.hid hD
    rw [← hD]
    clear hD hn hnm hok hps hX8 hL8 hu8 Hkid Hst Hrow HSr fl
    go_wp2_with (refine wpList_store_fresh rfl 30 _ _ rfl D rfl rfl (by rw [Ds.out]; kernel_rfl) (by rw [Ds.out]; rfl) Do.out ?_)
    intro w9 hs9 hrow9 hb9
    obtain ⟨K, hK⟩ : ∃ K, K = w8.heap.size := ⟨_, rfl⟩
    rw [← hK, HD.out] at hrow9
    rw [← hK]
    have HS9 := Lib.hid (HS8.out.below hb9)
    have HrowK := Lib.hid hrow9
    have HrowN := Lib.hid ((hb9.block N (by omega)).trans Hrow8.out)
    have Hst9 := Lib.hid (Hst8.out.doneW (Upd.below hb9 _))
    have Hn9 := Lib.hid (Hn.out.below hb9)
    have HuC := Lib.hid (HuB.out.trans (Upd.below hb9 _))
    have hKw : w.heap.size ≤ K := by omega
    have hK9 : K < w9.heap.size := lt_heap hrow9
    have hKR : K ≠ R := by omega
    have hKN : K ≠ N := by omega
    have hNK : N ≠ K := by omega
    have hw9 : w8.heap.size ≤ w9.heap.size := by omega
    have HK := Lib.hid hK
    clear hrow9 hb9 HS8 Hrow8 Hst8 HD Ds Do hK
    go_wp2_with fail
    refine (digits_any w9 j (by omega)).mono ?_
    rintro e10 w10 ⟨rfl, hb10⟩
    have HS10 := Lib.hid (HS9.out.below hb10)
    have HrowK2 := Lib.hid ((hb10.block K hK9).trans HrowK.out)
    have HrowN2 := Lib.hid ((hb10.block N (by omega)).trans HrowN.out)
    have Hst10 := Lib.hid (Hst9.out.doneW (Upd.below hb10 _))
    have Hn10 := Lib.hid (Hn9.out.below hb10)
    have HuD := Lib.hid (HuC.out.trans (Upd.below hb10 _))
    have hw10 : w9.heap.size ≤ w10.heap.size := hb10.size
    clear hb10 HS9 HrowK HrowN Hst9 Hn9
    obtain ⟨o1, f1⟩ := nd_cell w10 K n an cn 0 Hn10.out.vwf HrowK2.out (by omega)
    have z1 := frozen_of_row w10 K 0 _ _ HrowK2.out
    have hsk := heap_setCell_same w10 K 0 _ _ (.string (figs j)) HrowK2.out
    rw [row_set0] at hsk
    have huk : Upd (fun b => b = K) w10 (w10.setCell ⟨K, 0, none⟩ (.string (figs j))) := (Upd.refl _ _).setCell _ _ (fun _ => rfl)
    have HS11 := Lib.hid (HS10.out.set huk hKw hKR)
    have HrowN3 := Lib.hid (huk.at_ HrowN2.out hNK)
    have HrowK3 := Lib.hid hsk
    have hu11 := huk
    go_upto_region 10 with fail
    generalize w10.setCell ⟨K, 0, none⟩ (.string (figs j)) = w11 at HS11 HrowN3 HrowK3 hu11 ⊢
    have hw11 := hu11.size
    have hw11 := hu11.size
    obtain ⟨y, hy⟩ : ∃ y, y = n.named (figs j) := ⟨_, rfl⟩
    rw [← hy] at HrowK3
    have hyw : y.v.wf := by rw [hy]; exact Hn10.out.vwf
    obtain ⟨E, hE⟩ : ∃ E : Array Value, E = (y.row an cn).toArray := ⟨_, rfl⟩
    have hEb := fun W => build_node y an cn hyw.1 W
    rw [← hE] at hEb
    have HEb := Lib.hid hEb
    have HE := Lib.hid hE
    have hy41 := Lib.hid (row_len (a := an) (c := cn) hyw)
    have hEl := Lib.hid (show E.toList = y.row an cn by rw [hE])
    have hS11 : Upd (fun b => b = X ∨ b = L) wr w11 := HuD.out.then hu11 (fun b hb e => by have e' : b = K := e; have := HK.out; omega)
    have Hout11 := Lib.hid (HstR.out.out.kept hS11 (fun b hb e => by have h1 := HstR.out.n3 b hb; have e' : b = X ∨ b = L := e; omega))
    have Hx11 := Lib.hid (show NodeIn w11 (fun b => wr.heap.size ≤ b) d' y an by rw [hy]; exact ((Hn10.out.kept hu11 (fun b hb e => by have e' : b = K := e; have := hb.2; have := HK.out; omega)).mono (fun b hb _ => hb.1)).namedW _ (by show (4 : Nat) ≤ _; omega))
    have HS11u := Lib.hid hS11
    have Hy := Lib.hid hy
    have f40 : w11.cell? ⟨N, 40, none⟩ = some (.slice a3 j c3) := by have h := (nrow_at (o := 0) Hvwf.out (rangeAt_row HrowN3.out)).2.2.2; simp only [Nat.zero_add] at h; rw [← Hj.out]; exact h
    clear hsk huk hu11 hE hEb f1 z1 hyw hy hS11 HS10 HrowK2 HrowN2 Hst10 Hn10
    go_wp2_with (first | (refine wpList_load_midg (by rfl) 30 (.tmp 10) rfl K 0 rfl (y.row an cn) _ (rangeAt_row HrowK3.out) Try.underlying30 rfl (by rw [hy41.out]; kernel_rfl) ?_; rw [← HE.out]) | (refine wpList_buildSlice_eq (by rfl) 28 1 #[(0, .tmp 70)] rfl #[(0, .agg E)] (by kernel_rfl) _ (HEb.out _) ?_) | (at_builtin; refine wpList_append_any rfl _ _ 28 rfl 30 i0 _ 41 128 Try.underlying28 hi hz0 hz1 hz2 rfl (by decide) (.slice a3 j c3) j (rowsOf ks al) (.slice (some ⟨w11.heap.size, 0, none⟩) 1 1) 1 (y.row an cn) rfl rfl (Hout11.out.kept ((Upd.refl (fun _ => False) w11).alloc _) (fun _ _ => id)) (Sl.made _ _ _ _ _ _ _ _ hEl.out (by rw [hy41.out]) (by omega)) (nrow_one _ _ _ _ _ _) (by omega) (by omega) ?_))
    intro a7 c7 w12 hown hgr hb12
    have u12 : Upd (fun b => (Value.slice a3 j c3).ownBlock = some b) w11 w12 := Upd.grown ((Upd.refl _ w11).alloc _) hgr (fun b hb _ => hb)
    have hob : ∀ b, (Value.slice a3 j c3).ownBlock = some b → w6.heap.size ≤ b := HstR.out.n3
    have hrowN12 := u12.at_ HrowN3.out (fun e => by have := hob N e; omega)
    have HS12 := Lib.hid (HS11.out.own u12 (fun b e => by have := hob b e; constructor <;> omega))
    have hst12 := HstR.out.nextU hwr HS11u.out (fun b e => by have e' : b = X ∨ b = L := e; omega) cn Hx11.out hown hgr (by simpa using hb12)
    have f40n : w12.cell? ⟨N, 40, none⟩ = some (.slice a3 j c3) := by have h := (nrow_at (o := 0) Hvwf.out (rangeAt_row hrowN12)).2.2.2; simp only [Nat.zero_add] at h; rw [← Hj.out]; exact h
    have z40n := frozen_of_row w12 N 40 _ _ hrowN12
    have hs40 := heap_setCell_same w12 N 40 _ _ (.slice a7 (j + 1) c7) hrowN12
    rw [dir_set40 v ks (ks ++ [y]) (j + 1) (by rw [List.length_append, Hj.out]; rfl) a3 a7 c3 c7 Hvwf.out] at hs40
    have hu13 : Upd (fun b => b = N) w12 (w12.setCell ⟨N, 40, none⟩ (.slice a7 (j + 1) c7)) := (Upd.refl _ _).setCell _ _ (fun _ => rfl)
    have HS13 := Lib.hid (HS12.out.set hu13 hNw hNR)
    have Hst13 := Lib.hid (hst12.doneW (hu13.mono (fun b _ e => by have e' : b = N := e; omega)))
    have Hs40 := Lib.hid hs40
    have hsz13 : w6.heap.size ≤ (w12.setCell ⟨N, 40, none⟩ (.slice a7 (j + 1) c7)).heap.size := by have h1 := HS11u.out.size; have h2 := u12.size; have h3 := hu13.size; omega
    have Hsz13 := Lib.hid hsz13
    clear hown hgr hb12 u12 hrowN12 hst12 hs40 hu13 hsz13 f40 HS12 HS11 Hx11 Hout11
    go_wp2
    go_roundw
    case rel =>
      refine ⟨j + 1, a7, c7, al ++ [(an, cn)], ks ++ [y], x8, lB, by rw [List.length_append, Hj.out]; rfl, by go_num, by omega, ?_, ?_, Hs40.out, Hst13.out, HS13.out, Hsz13.out⟩
      · rw [Hy.out, partsAll_push ks n j Hnm.out]; have := Hps.out; have := Hpa.out; omega
      · have h := Hwk.out.push Hok.out; rw [Hj.out] at h; rw [Hy.out]; exact h
    case measure => simp [intOf]; omega
theorem wood_ok : ∀ d lv : Nat, lv + d = 9 → 1 ≤ lv → WoodAt d lv
  | 0, lv, h, h1 => wood_step 0 lv h h1 (fun e he => by omega)
  | d + 1, lv, h, h1 => wood_step (d + 1) lv h h1 (fun e he => by
      obtain rfl : d = e := Nat.succ.inj he
      exact wood_ok d (lv + 1) (by omega) (by omega))
theorem wood_top : WoodAt 9 0 := wood_root 9 0 rfl rfl (fun e he => by
  obtain rfl : 8 = e := Nat.succ.inj he
  exact wood_ok 8 1 rfl (Nat.le_refl _))
end Go.Proofs.Ythnbinlllmkabaa
