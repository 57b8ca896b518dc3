/- TreeLong: what its loop keeps. (Written by gen_long.py.) -/
import Derived.Test.YthnbinlllmkabaaTreeSet
import Derived.Test.YthnbinlllmkabaaRefLaw
import Derived.Test.YthnbinlllmkabaaTurn
import Derived.Test.YthnbinlllmkabaaKnown
import Derived.Test.YthnbinlllmkabaaNode
import Derived.Test.YthnbinlllmkabaaAlike
namespace Go.Proofs.Ythnbinlllmkabaa
open Go.RowKit
set_option linter.unusedVariables false
set_option linter.unusedSimpArgs false

/-- Blocks that no step of the loop writes. -/
def GB (wr : World) (X M : Nat) (vo vw : Value) : Nat → Prop := fun b => b < wr.heap.size ∧ b ≠ X ∧ b ≠ M ∧ vo.ownBlock ≠ some b ∧ vw.ownBlock ≠ some b
/-- A tree and the raw data that it is. -/
structure OldAt (w : World) (F : Nat → Prop) (p : Nat) (n : Nd) (a : Option Addr) : Prop where
  tree : ∃ d, TreeAt w F d p n
  node : ∃ d, NodeIn w F d n a
  parts : n.parts ≤ 1000000
theorem OldAt.keep {S F G : Nat → Prop} {w w5 : World} {p : Nat} {n : Nd} {a : Option Addr} (h : OldAt w F p n a) (hu : Upd S w w5) (hS : ∀ b, F b → ¬ S b) (hG : ∀ b, F b → G b) : OldAt w5 G p n a := by
  obtain ⟨d, h1⟩ := h.tree
  obtain ⟨e, h2⟩ := h.node
  exact ⟨⟨d, TreeAt.mono (fun b hb _ => hG b hb) _ _ _ (TreeAt.kept hu hS _ _ _ h1)⟩, ⟨e, (h2.kept hu hS).mono (fun b hb _ => hG b hb)⟩, h.parts⟩
/-- What the loop keeps. -/
structure LSt (w wr : World) (X M x t : Nat) (m : Nd) (am : Option Addr) (cm i : Nat) (vo vw : Value) (K : Nat) (ps : List Nat) (ws : List Nd) (al : List (Option Addr × Nat)) : Prop where
  xlt : x < 2147483648
  turn : wr.heap[X]? = some (.cells #[.int .i64 (x : Nat)] 88 (0, 0))
  row : wr.heap[M]? = some (.cells (m.row am cm).toArray 30 (0, 0))
  now : OldAt wr (GB wr X M vo vw) t m am
  ris : m.ris
  kinded : m.kinded
  parts : m.parts ≤ 1 + 401 * i
  old : Own wr 55 1 vo K (ptrs ps)
  was : Own wr 30 41 vw K (rowsOf ws al)
  lens : ps.length = K ∧ ws.length = K ∧ al.length = K
  olds : ∀ (j p : Nat) (n : Nd) (a : Option Addr) (c : Nat), ps[j]? = some p → ws[j]? = some n → al[j]? = some (a, c) → OldAt wr (GB wr X M vo vw) p n a
  sepo : vo.ownBlock ≠ some X ∧ vo.ownBlock ≠ some M
  sepw : vw.ownBlock ≠ some X ∧ vw.ownBlock ≠ some M
  xm : X ≠ M
  low : Below w.heap.size w wr
  xw : w.heap.size ≤ X
  mw : w.heap.size ≤ M
  obo : ∀ b, vo.ownBlock = some b → w.heap.size ≤ b
  obw : ∀ b, vw.ownBlock = some b → w.heap.size ≤ b
theorem GB.more {wr w5 : World} {X M : Nat} {vo vw : Value} (h : wr.heap.size ≤ w5.heap.size) {b : Nat} (hb : GB wr X M vo vw b) : GB w5 X M vo vw b := ⟨Nat.lt_of_lt_of_le hb.1 h, hb.2⟩
theorem LSt.keep {S : Nat → Prop} {w wr w5 : World} {X M x t : Nat} {m : Nd} {am : Option Addr} {cm i : Nat} {vo vw : Value} {K : Nat} {ps : List Nat} {ws : List Nd} {al : List (Option Addr × Nat)} (h : LSt w wr X M x t m am cm i vo vw K ps ws al) {x' : Nat} (hx : x' < 2147483648)
    (hu : Upd S wr w5) (hS : ∀ b, S b → b = X ∨ b = M) (h1 : w5.heap[X]? = some (.cells #[.int .i64 (x' : Nat)] 88 (0, 0))) (h2 : w5.heap[M]? = some (.cells (m.row am cm).toArray 30 (0, 0))) : LSt w w5 X M x' t m am cm i vo vw K ps ws al := by
  have hG : ∀ b, GB wr X M vo vw b → ¬ S b := fun b hb hs => by rcases hS b hs with e | e; exact hb.2.1 e; exact hb.2.2.1 e
  exact ⟨hx, h1, h2, h.now.keep hu hG (fun b hb => GB.more hu.size hb), h.ris, h.kinded, h.parts, h.old.kept hu (fun b hb hs => by rcases hS b hs with e | e; exact h.sepo.1 (e ▸ hb); exact h.sepo.2 (e ▸ hb)), h.was.kept hu (fun b hb hs => by rcases hS b hs with e | e; exact h.sepw.1 (e ▸ hb); exact h.sepw.2 (e ▸ hb)), h.lens, fun j p n a c e1 e2 e3 => (h.olds j p n a c e1 e2 e3).keep hu hG (fun b hb => GB.more hu.size hb), h.sepo, h.sepw, h.xm, h.low.upd (Nat.le_refl _) hu (fun b hb => by rcases hS b hb with e | e; exact e ▸ h.xw; exact e ▸ h.mw), h.xw, h.mw, h.obo, h.obw⟩
theorem LSt.below {w wr w5 : World} {X M x t : Nat} {m : Nd} {am : Option Addr} {cm i : Nat} {vo vw : Value} {K : Nat} {ps : List Nat} {ws : List Nd} {al : List (Option Addr × Nat)} (h : LSt w wr X M x t m am cm i vo vw K ps ws al) (hb : Below wr.heap.size wr w5) : LSt w w5 X M x t m am cm i vo vw K ps ws al :=
  h.keep h.xlt (Upd.below hb (fun _ => False)) (fun b hb => hb.elim) ((hb.block X (lt_heap h.turn)).trans h.turn) ((hb.block M (lt_heap h.row)).trans h.row)
theorem LSt.next {w wr w5 : World} {X M x t : Nat} {m : Nd} {am : Option Addr} {cm i : Nat} {vo vw : Value} {K : Nat} {ps : List Nat} {ws : List Nd} {al : List (Option Addr × Nat)} (h : LSt w wr X M x t m am cm i vo vw K ps ws al) {x' : Nat} (hx : x' < 2147483648) (h1 : w5.heap[X]? = some (.cells #[.int .i64 (x' : Nat)] 88 (0, 0))) (hu : Upd (fun b => b = X) wr w5) : LSt w w5 X M x' t m am cm i vo vw K ps ws al :=
  h.keep hx hu (fun b hb => .inl hb) h1 (hu.at_ h.row (fun e => h.xm e.symm))
/-- Another tree, another row. -/
theorem LSt.newm {w wr w5 : World} {X M x t : Nat} {m : Nd} {am : Option Addr} {cm i : Nat} {vo vw : Value} {K : Nat} {ps : List Nat} {ws : List Nd} {al : List (Option Addr × Nat)} (h : LSt w wr X M x t m am cm i vo vw K ps ws al) {u : Nat} {y : Nd} {ay : Option Addr} {cy : Nat}
    (hu : Upd (fun b => b = M) wr w5) (h2 : w5.heap[M]? = some (.cells (y.row ay cy).toArray 30 (0, 0))) (hy : OldAt wr (GB wr X M vo vw) u y ay) (hr : y.ris) (hk : y.kinded) (hp : y.parts ≤ 1 + 401 * (i + 1)) : LSt w w5 X M x u y ay cy (i + 1) vo vw K ps ws al := by
  have hG : ∀ b, GB wr X M vo vw b → ¬ (b = M) := fun b hb hs => hb.2.2.1 hs
  exact ⟨h.xlt, hu.at_ h.turn h.xm, h2, hy.keep hu hG (fun b hb => GB.more hu.size hb), hr, hk, hp, h.old.kept hu (fun b hb hs => h.sepo.2 ((show b = M from hs) ▸ hb)), h.was.kept hu (fun b hb hs => h.sepw.2 ((show b = M from hs) ▸ hb)), h.lens, fun j p n a c e1 e2 e3 => (h.olds j p n a c e1 e2 e3).keep hu hG (fun b hb => GB.more hu.size hb), h.sepo, h.sepw, h.xm, h.low.upd (Nat.le_refl _) hu (fun b hb => (show b = M from hb) ▸ h.mw), h.xw, h.mw, h.obo, h.obw⟩
theorem LSt.later {w wr : World} {X M x t : Nat} {m : Nd} {am : Option Addr} {cm i : Nat} {vo vw : Value} {K : Nat} {ps : List Nat} {ws : List Nd} {al : List (Option Addr × Nat)} (h : LSt w wr X M x t m am cm i vo vw K ps ws al) : LSt w wr X M x t m am cm (i + 1) vo vw K ps ws al :=
  { h with parts := by have := h.parts; omega }
/-- New blocks are among those that no step writes. -/
theorem LSt.fresh {w wr w5 : World} {X M x t : Nat} {m : Nd} {am : Option Addr} {cm i : Nat} {vo vw : Value} {K : Nat} {ps : List Nat} {ws : List Nd} {al : List (Option Addr × Nat)} (h : LSt w wr X M x t m am cm i vo vw K ps ws al) {b : Nat} (h1 : wr.heap.size ≤ b) (h2 : b < w5.heap.size) : GB w5 X M vo vw b := by
  have hx := lt_heap h.turn
  have hm := lt_heap h.row
  exact ⟨h2, by omega, by omega, fun e => by have := h.old.lt e; omega, fun e => by have := h.was.lt e; omega⟩
/-- The lists grow by the tree of now. -/
theorem LSt.push {w wr w5 w6 w7 w8 : World} {X M x t : Nat} {m : Nd} {am : Option Addr} {cm i : Nat} {ao aw : Option Addr} {co cw : Nat} {K : Nat} {ps : List Nat} {ws : List Nd} {al : List (Option Addr × Nat)} (h : LSt w wr X M x t m am cm i (.slice ao K co) (.slice aw K cw) K ps ws al) {a1 a2 : Option Addr} {c1 c2 : Nat}
    (h5 : Below wr.heap.size wr w5) (ho : Own w6 55 1 (.slice a1 (K + 1) c1) (K + 1) (ptrs ps ++ [.pointer (some ⟨t, 0, none⟩)])) (hg : w5.grownBy w6 (Value.slice ao K co).ownBlock) (hn : ∀ b, (Value.slice ao K co).ownBlock ≠ some b → (Value.slice a1 (K + 1) c1).ownBlock = some b → w5.heap.size ≤ b)
    (h7 : Below w6.heap.size w6 w7) (hw : Own w8 30 41 (.slice a2 (K + 1) c2) (K + 1) (rowsOf ws al ++ m.row am cm)) (hg2 : w7.grownBy w8 (Value.slice aw K cw).ownBlock) (hn2 : ∀ b, (Value.slice aw K cw).ownBlock ≠ some b → (Value.slice a2 (K + 1) c2).ownBlock = some b → w7.heap.size ≤ b) :
    LSt w w8 X M x t m am cm i (.slice a1 (K + 1) c1) (.slice a2 (K + 1) c2) (K + 1) (ps ++ [t]) (ws ++ [m]) (al ++ [(am, cm)]) := by
  obtain ⟨l1, l2, l3⟩ := h.lens
  have u5 : Upd (fun _ => False) wr w5 := Upd.below h5 _
  have u6 : Upd (fun b => (Value.slice ao K co).ownBlock = some b) w5 w6 := Upd.grown (Upd.refl _ w5) hg (fun b hb _ => hb)
  have u7 : Upd (fun _ => False) w6 w7 := Upd.below h7 _
  have u8 : Upd (fun b => (Value.slice aw K cw).ownBlock = some b) w7 w8 := Upd.grown (Upd.refl _ w7) hg2 (fun b hb _ => hb)
  have s5 := u5.size
  have s6 := u6.size
  have s7 := u7.size
  have s8 := u8.size
  have hU : Upd (fun b => (Value.slice ao K co).ownBlock = some b ∨ (Value.slice aw K cw).ownBlock = some b) wr w8 :=
    (((u5.mono (T := fun b => (Value.slice ao K co).ownBlock = some b ∨ (Value.slice aw K cw).ownBlock = some b) (fun b _ e => e.elim)).then u6 (fun b _ e => .inl e)).then u7 (fun b _ e => e.elim)).then u8 (fun b _ e => .inr e)
  have hx := lt_heap h.turn
  have hm := lt_heap h.row
  have b1 : ∀ b, (Value.slice a1 (K + 1) c1).ownBlock = some b → (Value.slice ao K co).ownBlock = some b ∨ wr.heap.size ≤ b := fun b hb => by
    by_cases hc : (Value.slice ao K co).ownBlock = some b
    · exact .inl hc
    · have := hn b hc hb; exact .inr (by omega)
  have b2 : ∀ b, (Value.slice a2 (K + 1) c2).ownBlock = some b → (Value.slice aw K cw).ownBlock = some b ∨ wr.heap.size ≤ b := fun b hb => by
    by_cases hc : (Value.slice aw K cw).ownBlock = some b
    · exact .inl hc
    · have := hn2 b hc hb; exact .inr (by omega)
  have hG : ∀ b, GB wr X M (.slice ao K co) (.slice aw K cw) b → ¬ ((Value.slice ao K co).ownBlock = some b ∨ (Value.slice aw K cw).ownBlock = some b) := fun b hb hs => hs.elim hb.2.2.2.1 hb.2.2.2.2
  have hM : ∀ b, GB wr X M (.slice ao K co) (.slice aw K cw) b → GB w8 X M (.slice a1 (K + 1) c1) (.slice a2 (K + 1) c2) b := fun b hb => ⟨Nat.lt_of_lt_of_le hb.1 hU.size, hb.2.1, hb.2.2.1, fun e => by
      rcases b1 b e with e1 | e1
      · exact hb.2.2.2.1 e1
      · have := hb.1; omega, fun e => by
      rcases b2 b e with e1 | e1
      · exact hb.2.2.2.2 e1
      · have := hb.1; omega⟩
  have hnow := h.now.keep hU hG hM
  refine ⟨h.xlt, hU.at_ h.turn (fun e => e.elim h.sepo.1 h.sepw.1), hU.at_ h.row (fun e => e.elim h.sepo.2 h.sepw.2), hnow, h.ris, h.kinded, h.parts, ?_, ?_, ?_, ?_, ?_, ?_, h.xm, ?_, h.xw, h.mw, ?_, ?_⟩
  · have e : ptrs ps ++ [Value.pointer (some ⟨t, 0, none⟩)] = ptrs (ps ++ [t]) := by simp [ptrs]
    rw [e] at ho
    refine (ho.kept u7 (fun _ _ => id)).kept u8 (fun b hb e => ?_)
    rcases b1 b hb with e1 | e1
    · exact h.old.parted h.was (by decide) b e1 e
    · have := h.was.lt e; omega
  · rw [rowsOf_append ws al m am cm (by omega)]; exact hw
  · exact ⟨by simp [l1], by simp [l2], by simp [l3]⟩
  · intro j p n a c e1 e2 e3
    by_cases hj : j < K
    · rw [List.getElem?_append_left (by omega)] at e1 e2 e3
      exact (h.olds j p n a c e1 e2 e3).keep hU hG hM
    · have hj2 : j = K := by
        have := (List.getElem?_eq_some_iff.1 e1).1
        simp at this
        omega
      subst hj2
      rw [List.getElem?_append_right (by omega), l1, Nat.sub_self] at e1
      rw [List.getElem?_append_right (by omega), l2, Nat.sub_self] at e2
      rw [List.getElem?_append_right (by omega), l3, Nat.sub_self] at e3
      simp at e1 e2 e3
      obtain ⟨rfl, rfl⟩ := e3
      subst e1 e2
      exact hnow
  · exact ⟨fun e => by rcases b1 X e with e1 | e1; exact h.sepo.1 e1; omega, fun e => by rcases b1 M e with e1 | e1; exact h.sepo.2 e1; omega⟩
  · exact ⟨fun e => by rcases b2 X e with e1 | e1; exact h.sepw.1 e1; omega, fun e => by rcases b2 M e with e1 | e1; exact h.sepw.2 e1; omega⟩
  · exact h.low.upd (Nat.le_refl _) hU (fun b hb => hb.elim (h.obo b) (h.obw b))
  · intro b hb
    rcases b1 b hb with e1 | e1
    · exact h.obo b e1
    · have := h.low.size; omega
  · intro b hb
    rcases b2 b hb with e1 | e1
    · exact h.obw b e1
    · have := h.low.size; omega
theorem named_kinded {n : Nd} {s : ByteArray} : (n.named s).kinded ↔ n.kinded := by rw [kinded_eq, kinded_eq n]; rfl
theorem named_partsL (n : Nd) : (n.named ⟨#[]⟩).parts ≤ n.parts := by
  rw [parts_eq, parts_eq n]
  show 1 + 0 + partsAll n.kids ≤ 1 + n.name.size + partsAll n.kids
  omega
/-- A thing without children. -/
def bareL (v : Vl) : Nd := .mk ⟨#[]⟩ v noMk []
theorem bareL_ris (v : Vl) : (bareL v).ris := by rw [ris_eq]; exact ⟨List.Pairwise.nil, trivial⟩
theorem lsum_400 {q : ByteArray} (hq : q.size ≤ 19) : lsum (pieces q) ≤ 400 := Nat.le_trans (pieces_lsum q) (Nat.mul_le_mul (show q.size + 1 ≤ 20 by omega) (show q.size + 1 ≤ 20 by omega))
theorem put_parts (m : Nd) (v : Vl) {q : ByteArray} (hq : q.size ≤ 19) : (putR m (pieces q) (bareL v)).parts ≤ m.parts + 401 := by
  have h1 := putR_parts (pieces q) m (bareL v)
  have h2 := lsum_400 hq
  have h3 : (bareL v).parts = 1 := rfl
  omega
theorem drop_parts (m : Nd) {q : ByteArray} (hq : q.size ≤ 19) : (putR m (pieces q) noNd).parts ≤ m.parts + 401 := by
  have h1 := putR_parts (pieces q) m noNd
  have h2 := lsum_400 hq
  have h3 : noNd.parts = 1 := rfl
  omega
theorem setNd_parts (v : Vl) (mm : Mk × Mk) (k : Nd) : (setNd v mm k).parts + k.name.size = k.parts := by
  rw [parts_eq, parts_eq k]
  show 1 + 0 + partsAll k.kids + _ = _
  omega
theorem set_parts {m k : Nd} {v : Vl} {mm : Mk × Mk} {q : ByteArray} (hk : subOf m (pieces q) = some k) : (putR m (pieces q) (setNd v mm k)).parts ≤ m.parts := by
  have h1 := putR_sub_parts (pieces q) m (setNd v mm k) k hk
  have h2 := setNd_parts v mm k
  have h3 := parts_eq k
  omega
theorem sub_parts : ∀ (l : List ByteArray) (n k : Nd), subOf n l = some k → k.parts ≤ n.parts
  | [], n, k, h => by have : n = k := by cases n; injection h
                      rw [this]; exact Nat.le_refl _
  | t :: l, n, k, h => by
    rw [subOf_cons, Option.bind_eq_some_iff] at h
    obtain ⟨x, ho, h⟩ := h
    have h2 := sub_parts l x k h
    have h4 := parts_cut1 (kidOf_some ho).1
    have h3 := parts_eq n
    omega
theorem sub_ris : ∀ (l : List ByteArray) (n k : Nd), n.ris → subOf n l = some k → k.ris
  | [], n, k, hn, h => by have : n = k := by cases n; injection h
                          rw [← this]; exact hn
  | t :: l, n, k, hn, h => by
    rw [subOf_cons, Option.bind_eq_some_iff] at h
    obtain ⟨x, ho, h⟩ := h
    exact sub_ris l x k (kidOf_ris hn ho) h
theorem kinded_split {n : Nd} (h : n.kinded) : n.v.kind ≠ 0 ∧ ∀ k ∈ n.kids, k.kinded := by rw [kinded_eq] at h; exact ⟨h.1, kinded_kids.1 h.2⟩
theorem kinded_join {n : Nd} (h : n.v.kind ≠ 0) (h2 : ∀ k ∈ n.kids, k.kinded) : n.kinded := by rw [kinded_eq]; exact ⟨h, kinded_kids.2 h2⟩
/-- What a right step gives. -/
theorem put_good {m : Nd} {v : Vl} {q : ByteArray} (hr : m.ris) (hk : m.kinded) (hq : q.size ≤ 19) (hv : v.kind ≠ 0) (h0 : putErr m q (bareL v) = 0) :
    putRes m q (bareL v) = (putOf m q (bareL v)).named ⟨#[]⟩ ∧ (putRes m q (bareL v)).ris ∧ (putRes m q (bareL v)).kinded ∧ (putRes m q (bareL v)).parts ≤ m.parts + 401 := by
  obtain ⟨h1, h2, h3⟩ := putErr_ne.1 h0
  have hw := putOf_some m q (bareL v)
  obtain ⟨e1, e2⟩ := putR_some (pieces q) m (bareL v) _ hk hv h2 hw
  have hres : putRes m q (bareL v) = (putR m (pieces q) (bareL v)).named ⟨#[]⟩ := by unfold putRes; rw [if_pos h0]
  have hkk := putR_kids (pieces q) m (bareL v) (kinded_split hk).2 (fun k hk => by simp [bareL, Nd.kids] at hk)
  refine ⟨by rw [hres, e1]; rfl, ?_, ?_, ?_⟩
  · rw [hres, named_ris, e1, named_ris]
    exact withOf_ris _ _ _ _ hr (fun x hx => by injection hx with hx; rw [← hx]; exact bareL_ris v) hw
  · rw [hres, named_kinded]; exact kinded_join e2 hkk
  · rw [hres]; exact Nat.le_trans (named_partsL _) (put_parts m v hq)
theorem set_good {m k r : Nd} {v : Vl} {q : ByteArray} (hr : m.ris) (hk : m.kinded) (hv : v.kind ≠ 0) (h0 : setErr m q v noMk = 0) (hs : subOf m (pieces q) = some k) (hw : withOf m (pieces q) (some (setNd v noMk k)) = some r) :
    setRes m q v noMk = r.named ⟨#[]⟩ ∧ (setRes m q v noMk).ris ∧ (setRes m q v noMk).kinded ∧ (setRes m q v noMk).parts ≤ m.parts := by
  have hway : wayOf m (pieces q) = true := by
    unfold setErr at h0
    split at h0
    · rename_i h; exact absurd h0 h
    · split at h0
      · cases h0
      · rename_i h; simpa using h
  obtain ⟨e1, e2⟩ := putR_some (pieces q) m (setNd v noMk k) _ hk hv hway hw
  have hres : setRes m q v noMk = (putR m (pieces q) (setNd v noMk k)).named ⟨#[]⟩ := by unfold setRes; rw [if_pos h0, hs]
  have hkk := putR_kids (pieces q) m (setNd v noMk k) (kinded_split hk).2 (kinded_split (sub_kinded _ _ _ hk hs)).2
  refine ⟨by rw [hres, e1]; rfl, ?_, ?_, ?_⟩
  · rw [hres, named_ris, e1, named_ris]
    refine withOf_ris _ _ _ _ hr (fun x hx => ?_) hw
    injection hx with hx
    rw [← hx, ris_eq]
    have h2 := sub_ris _ _ _ hr hs
    rw [ris_eq] at h2
    exact h2
  · rw [hres, named_kinded]; exact kinded_join e2 hkk
  · rw [hres]; exact Nat.le_trans (named_partsL _) (set_parts hs)
theorem drop_good {m : Nd} {q : ByteArray} (hr : m.ris) (hk : m.kinded) (h0 : dropErr m q = 0) :
    dropRes m q = (dropOf m q).named ⟨#[]⟩ ∧ (dropRes m q).ris ∧ (dropRes m q).kinded ∧ (dropRes m q).parts ≤ m.parts := by
  obtain ⟨h1, h2, h3, h4, h5⟩ := dropErr_zero h0
  obtain ⟨e1, e2⟩ := putR_none (pieces q) m _ h2 hk h4 h5
  have hres : dropRes m q = (putR m (pieces q) noNd).named ⟨#[]⟩ := by unfold dropRes; rw [if_pos h0]
  have hkk := putR_kids (pieces q) m noNd (kinded_split hk).2 (fun k hk => by simp [noNd, Nd.kids] at hk)
  obtain ⟨k, hsk⟩ := Option.isSome_iff_exists.1 h4
  refine ⟨by rw [hres, e1], ?_, ?_, ?_⟩
  · rw [hres, named_ris, e1]
    exact withOf_ris _ _ _ _ hr (fun x hx => by cases hx) h5
  · rw [hres, named_kinded]; exact kinded_join e2 hkk
  · rw [hres]
    refine Nat.le_trans (named_partsL _) ?_
    have h6 := putR_sub_parts (pieces q) m noNd k hsk
    have h7 : noNd.parts = 1 := rfl
    have h8 := parts_eq k
    omega
theorem LSt.look {w wr : World} {X M x t : Nat} {m : Nd} {am : Option Addr} {cm i : Nat} {ao aw : Option Addr} {co cw K : Nat} {ps : List Nat} {ws : List Nd} {al : List (Option Addr × Nat)} (h : LSt w wr X M x t m am cm i (.slice ao K co) (.slice aw K cw) K ps ws al) (j : Nat) (hj : j < K) :
    ∃ (p : Nat) (n : Nd) (a : Option Addr) (c g o g' o' : Nat), ao = some ⟨g, o, none⟩ ∧ aw = some ⟨g', o', none⟩ ∧ wr.cell? ⟨g, o + j, none⟩ = some (.pointer (some ⟨p, 0, none⟩)) ∧ wr.rangeAt g' (o' + j * 41) (n.row a c) ∧ n.v.wf ∧ OldAt wr (GB wr X M (.slice ao K co) (.slice aw K cw)) p n a := by
  obtain ⟨l1, l2, l3⟩ := h.lens
  have h1 : j < ps.length := by omega
  have h2 : j < ws.length := by omega
  have h3 : j < al.length := by omega
  have hw : ∀ k ∈ ws, k.v.wf := fun k hk => by
    obtain ⟨q, hq, rfl⟩ := List.mem_iff_getElem.1 hk
    obtain ⟨d, hd⟩ := (h.olds q _ _ al[q].1 al[q].2 (List.getElem?_eq_getElem (show q < ps.length by omega)) (List.getElem?_eq_getElem hq) (List.getElem?_eq_getElem (show q < al.length by omega))).node
    exact hd.vwf
  have ho := h.olds j _ _ al[j].1 al[j].2 (List.getElem?_eq_getElem h1) (List.getElem?_eq_getElem h2) (List.getElem?_eq_getElem h3)
  obtain ⟨g, o, e1, _, c1⟩ := h.old.sl.open_ (by simp [ptrs]; omega)
  obtain ⟨g', o', e2, _, c2⟩ := h.was.sl.open_ (by rw [rowsOf_length ws al (by omega) hw]; omega)
  refine ⟨ps[j], ws[j], al[j].1, al[j].2, g, o, g', o', e1, e2, c1 j _ (by simp [ptrs, h1]), fun q v hv => ?_, hw _ (List.getElem_mem h2), ho⟩
  have hq : q < 41 := by have := (List.getElem?_eq_some_iff.1 hv).1; rwa [row_len (hw _ (List.getElem_mem h2))] at this
  have := c2 (j * 41 + q) v (by rw [rowsOf_at ws al j ws[j] al[j].1 al[j].2 q hw (by omega) (List.getElem?_eq_getElem h2) (List.getElem?_eq_getElem h3) hq]; exact hv)
  rw [Nat.add_assoc]
  exact this
theorem treeNode_okL (F : Nat → Prop) (d : Nat) (w : World) (p : Nat) (n : Nd) (ht : TreeAt w F d p n) (hpt : n.parts ≤ 1000000) :
    Calls Try.prog 46 #[.pointer (some ⟨p, 0, none⟩)] w fun e w3 => ∃ (a' : Option Addr) (c' : Nat), e = .returned (.agg ((n.named ⟨#[]⟩).row a' c').toArray) ∧ NodeIn w3 (fun b => w.heap.size ≤ b) d (n.named ⟨#[]⟩) a' ∧ Below w.heap.size w w3 :=
  treeNode_of d w ⟨p, 0, none⟩ (n.named ⟨#[]⟩) (fun w2 hb => node_ok d (fun b => b < w2.heap.size) w2 p n ⟨#[]⟩ (TreeAt.mono (fun b _ hl => hl) d p n (ht.below hb)) (fun b hb => hb) hpt (by decide))
theorem alike_trueL (F FT : Nat → Prop) (d dt : Nat) (w : World) (p : Nat) (n : Nd) (a : Option Addr) (c : Nat) (hn : NodeIn w F d n a) (hF : ∀ b, F b → b < w.heap.size) (ht : TreeAt w FT dt p n) (hpt : n.parts ≤ 1000000) :
    Calls Try.prog 14 #[.pointer (some ⟨p, 0, none⟩), .agg (n.row a c).toArray] w fun e w' => e = .returned (.bool true) ∧ Below w.heap.size w w' := by
  refine (alike_of F (fun _ => True) d dt w ⟨p, 0, none⟩ (n.named ⟨#[]⟩) n a c hn hF hpt (fun w' hb => ?_)).mono ?_
  · refine (treeNode_okL FT dt w' p n (ht.below hb) hpt).mono ?_
    rintro e w3 ⟨a', c', rfl, h1, h2⟩
    exact ⟨a', c', rfl, h1.mono (fun _ _ _ => trivial), h2⟩
  · rintro e w' ⟨rfl, hb⟩
    refine ⟨?_, hb⟩
    have h1 : (decide ((n.named ⟨#[]⟩).name = (n.named ⟨#[]⟩).name) && (n.named ⟨#[]⟩).alike (n.named ⟨#[]⟩)) = true := by
      rw [show (n.named ⟨#[]⟩).alike (n.named ⟨#[]⟩) = true from alike_self (n.named ⟨#[]⟩) ⟨#[]⟩]; simp
    rw [h1]
end Go.Proofs.Ythnbinlllmkabaa
