/- The reference's Copy and Plain. -/
import Derived.Test.YthnbinlllmkabaaNd
import Derived.Test.YthnbinlllmkabaaCnt
import Derived.Test.YthnbinlllmkabaaTree
namespace Go.Proofs.Ythnbinlllmkabaa
open Go.RowKit
set_option linter.unusedVariables false
set_option linter.unusedSimpArgs false

theorem partsAll_get {ks : List Nd} {i : Nat} (h : i < ks.length) : (ks[i]).parts ≤ partsAll ks := by
  have h1 := partsAll_take ks i h
  have h2 := partsAll_append (ks.take (i + 1)) (ks.drop (i + 1))
  rw [List.take_append_drop] at h2
  omega
theorem partsAll_len : ∀ ks : List Nd, ks.length ≤ partsAll ks
  | [] => by simp [partsAll]
  | k :: ks => by have h := partsAll_len ks; have := parts_eq k; simp only [List.length_cons, partsAll]; omega
theorem row_len {n : Nd} {a : Option Addr} {c : Nat} (h : n.v.wf) : (n.row a c).length = 41 := nrow_length h
/-- Rows of nodes, one behind the other. -/
def rowsOf : List Nd → List (Option Addr × Nat) → List Value
  | k :: ks, (a, c) :: al => k.row a c ++ rowsOf ks al
  | _, _ => []
theorem rowsOf_append : ∀ (ks : List Nd) (al : List (Option Addr × Nat)) (x : Nd) (a : Option Addr) (c : Nat), ks.length = al.length → rowsOf (ks ++ [x]) (al ++ [(a, c)]) = rowsOf ks al ++ x.row a c
  | [], [], x, a, c, _ => by simp [rowsOf]
  | k :: ks, (a1, c1) :: al, x, a, c, h => by simp only [List.cons_append, rowsOf, rowsOf_append ks al x a c (by simpa using h), List.append_assoc]
  | [], _ :: _, _, _, _, h => by simp at h
  | _ :: _, [], _, _, _, h => by simp at h
theorem rowsOf_length : ∀ (ks : List Nd) (al : List (Option Addr × Nat)), ks.length = al.length → (∀ k ∈ ks, k.v.wf) → (rowsOf ks al).length = ks.length * 41
  | [], [], _, _ => rfl
  | k :: ks, (a, c) :: al, h, hw => by
    simp only [rowsOf, List.length_append, List.length_cons, rowsOf_length ks al (by simpa using h) (fun k hk => hw k (by simp [hk])), nrow_length (hw k (by simp)), Nd.row]
    omega
  | [], _ :: _, h, _ => by simp at h
  | _ :: _, [], h, _ => by simp at h
theorem rowsOf_at : ∀ (ks : List Nd) (al : List (Option Addr × Nat)) (i : Nat) (k : Nd) (a : Option Addr) (c : Nat) (j : Nat), (∀ k ∈ ks, k.v.wf) → ks.length = al.length → ks[i]? = some k → al[i]? = some (a, c) → j < 41 → (rowsOf ks al)[i * 41 + j]? = (k.row a c)[j]?
  | [], _, i, k, a, c, j, _, _, h, _, _ => by simp at h
  | x :: ks, [], i, k, a, c, j, _, h, _, _, _ => by simp at h
  | x :: ks, (a1, c1) :: al, 0, k, a, c, j, hw, hl, h1, h2, hj => by
    simp at h1 h2
    obtain ⟨rfl, rfl⟩ := h2
    subst h1
    rw [rowsOf, Nat.zero_mul, Nat.zero_add, List.getElem?_append_left (by rw [row_len (hw x (by simp))]; exact hj)]
  | x :: ks, (a1, c1) :: al, i + 1, k, a, c, j, hw, hl, h1, h2, hj => by
    simp at h1 h2
    have hx : (x.row a1 c1).length = 41 := nrow_length (hw x (by simp))
    rw [rowsOf, List.getElem?_append_right (by rw [hx]; omega), hx, show (i + 1) * 41 + j - 41 = i * 41 + j by omega]
    exact rowsOf_at ks al i k a c j (fun k hk => hw k (by simp [hk])) (by simpa using hl) h1 h2 hj
theorem rowsOf_one : ∀ (ks : List Nd) (al : List (Option Addr × Nat)), ∀ u ∈ rowsOf ks al, u.oneCell' = true
  | [], _, u, h => by simp [rowsOf] at h
  | _ :: _, [], u, h => by simp [rowsOf] at h
  | k :: ks, (a, c) :: al, u, h => by
    simp only [rowsOf, List.mem_append] at h
    rcases h with h | h
    · exact nrow_one _ _ _ _ _ _ u h
    · exact rowsOf_one ks al u h
/-- Nodes whose children lie at these places. -/
def NodesIn (w : World) (F : Nat → Prop) (d : Nat) (ks : List Nd) (al : List (Option Addr × Nat)) : Prop := ks.length = al.length ∧ ∀ (i : Nat) (k : Nd) (a : Option Addr) (c : Nat), ks[i]? = some k → al[i]? = some (a, c) → NodeIn w F d k a
theorem NodesIn.wf {w : World} {F : Nat → Prop} {d : Nat} {ks : List Nd} {al : List (Option Addr × Nat)} (h : NodesIn w F d ks al) : ∀ k ∈ ks, k.v.wf := by
  intro k hk
  obtain ⟨i, hi, rfl⟩ := List.mem_iff_getElem.1 hk
  have hil : i < al.length := by rw [← h.1]; exact hi
  exact (h.2 i _ al[i].1 al[i].2 (List.getElem?_eq_getElem hi) (List.getElem?_eq_getElem hil)).vwf
theorem NodesIn.kept {F S : Nat → Prop} {w w' : World} {d : Nat} {ks : List Nd} {al : List (Option Addr × Nat)} (h : NodesIn w F d ks al) (hu : Upd S w w') (hS : ∀ b, F b → ¬ S b) : NodesIn w' F d ks al :=
  ⟨h.1, fun i k a c h1 h2 => (h.2 i k a c h1 h2).kept hu hS⟩
theorem NodesIn.mono {F G : Nat → Prop} {w : World} {d : Nat} {ks : List Nd} {al : List (Option Addr × Nat)} (h : NodesIn w F d ks al) (hG : ∀ b, F b → b < w.heap.size → G b) : NodesIn w G d ks al :=
  ⟨h.1, fun i k a c h1 h2 => (h.2 i k a c h1 h2).mono hG⟩
theorem NodesIn.push {w : World} {F : Nat → Prop} {d : Nat} {ks : List Nd} {al : List (Option Addr × Nat)} (h : NodesIn w F d ks al) {x : Nd} {a : Option Addr} (c : Nat) (hx : NodeIn w F d x a) : NodesIn w F d (ks ++ [x]) (al ++ [(a, c)]) := by
  refine ⟨by simp [h.1], fun i k a' c' h1 h2 => ?_⟩
  by_cases hi : i < ks.length
  · rw [List.getElem?_append_left hi] at h1
    rw [List.getElem?_append_left (by rw [← h.1]; exact hi)] at h2
    exact h.2 i k a' c' h1 h2
  · have hl := (List.getElem?_eq_some_iff.1 h1).1
    simp at hl
    obtain rfl : i = ks.length := by omega
    rw [List.getElem?_append_right (Nat.le_refl _), Nat.sub_self] at h1
    rw [List.getElem?_append_right (by rw [h.1]; exact Nat.le_refl _), h.1, Nat.sub_self] at h2
    simp at h1 h2
    obtain ⟨rfl, rfl⟩ := h2
    subst h1
    exact hx
/-- Children that lie in a slice of rows. -/
theorem KidsIn.ofRows {w : World} {F : Nat → Prop} {d n c : Nat} {a : Option Addr} {ks : List Nd} {al : List (Option Addr × Nat)} (hs : Sl w 41 (.slice a n c) n (rowsOf ks al)) (hn : NodesIn w F d ks al) (hF : ∀ b, (Value.slice a n c).ownBlock = some b → ks ≠ [] → F b) : KidsIn w F (d + 1) a ks := by
  intro i k hk
  have hi := (List.getElem?_eq_some_iff.1 hk).1
  have hne : ks ≠ [] := by intro e; rw [e] at hi; exact absurd hi (Nat.not_lt_zero _)
  obtain ⟨g, off, rfl, _, hc⟩ := hs.open_ (by rw [rowsOf_length ks al hn.1 hn.wf]; omega)
  have hil : i < al.length := by rw [← hn.1]; exact hi
  have hai : al[i]? = some al[i] := List.getElem?_eq_getElem hil
  have h := hn.2 i k al[i].1 al[i].2 hk hai
  refine ⟨g, off, al[i].1, al[i].2, rfl, hF g rfl hne, fun j v hj => ?_, h.vwf, h.mwf, h.nsz, h.ksz, h.kids⟩
  have hj41 : j < 41 := by have := (List.getElem?_eq_some_iff.1 hj).1; rwa [nrow_length h.vwf] at this
  have := hc (i * 41 + j) v (by rw [rowsOf_at ks al i k al[i].1 al[i].2 j hn.wf hn.1 hk hai hj41]; exact hj)
  rw [Nat.add_assoc]
  exact this
/-- Copies that are collected, k of them. -/
structure CopySt (w wr : World) (d k : Nat) (a3 : Option Addr) (c3 : Nat) (ks : List Nd) (al : List (Option Addr × Nat)) : Prop where
  out : Own wr 30 41 (.slice a3 k c3) k (rowsOf ks al)
  nodes : NodesIn wr (fun b => w.heap.size ≤ b ∧ (Value.slice a3 k c3).ownBlock ≠ some b) d ks al
  n3 : ∀ b, (Value.slice a3 k c3).ownBlock = some b → w.heap.size ≤ b
theorem CopySt.next {w wr w5 w6 : World} {d k : Nat} {a3 : Option Addr} {c3 : Nat} {ks : List Nd} {al : List (Option Addr × Nat)} (h : CopySt w wr d k a3 c3 ks al) (hw : w.heap.size ≤ wr.heap.size) {x : Nd} (h5 : Below wr.heap.size wr w5) {a' : Option Addr} (c' : Nat) (hx : NodeIn w5 (fun b => wr.heap.size ≤ b) d x a')
    {a4 : Option Addr} {c4 : Nat} {o : Obj} (ho : Own w6 30 41 (.slice a4 (k + 1) c4) (k + 1) (rowsOf ks al ++ x.row a' c')) (hg : (w5.alloc o).grownBy w6 (Value.slice a3 k c3).ownBlock) (hn : ∀ b, (Value.slice a3 k c3).ownBlock ≠ some b → (Value.slice a4 (k + 1) c4).ownBlock = some b → w5.heap.size + 1 ≤ b) :
    CopySt w w6 d (k + 1) a4 c4 (ks ++ [x]) (al ++ [(a', c')]) := by
  have hs5 := h5.size
  have u56 : Upd (fun b => (Value.slice a3 k c3).ownBlock = some b) w5 w6 := Upd.grown ((Upd.refl _ w5).alloc o) hg (fun b hb _ => hb)
  have l3 : ∀ b, (Value.slice a3 k c3).ownBlock = some b → b < wr.heap.size := fun b hb => h.out.lt hb
  have hn' : ∀ b, (Value.slice a4 (k + 1) c4).ownBlock = some b → (Value.slice a3 k c3).ownBlock = some b ∨ w5.heap.size ≤ b := fun b hb => by
    by_cases hc : (Value.slice a3 k c3).ownBlock = some b
    · exact .inl hc
    · have := hn b hc hb; exact .inr (by omega)
  refine ⟨by rw [rowsOf_append ks al x a' c' h.nodes.1]; exact ho, NodesIn.push ?_ c' ?_, fun b hb => ?_⟩
  · have t0 := (h.nodes.mono (G := fun b => (w.heap.size ≤ b ∧ (Value.slice a3 k c3).ownBlock ≠ some b) ∧ b < wr.heap.size) (fun b hb hl => ⟨hb, hl⟩))
    have t1 := (t0.kept (Upd.below h5 (fun _ => False)) (fun _ _ => id)).kept u56 (fun b hb hS => hb.1.2 hS)
    refine t1.mono ?_
    intro b hb _
    refine ⟨hb.1.1, fun e => ?_⟩
    rcases hn' b e with h | h
    · exact hb.1.2 h
    · omega
  · have t0 := hx.mono (G := fun b => wr.heap.size ≤ b ∧ b < w5.heap.size) (fun b hb hl => ⟨hb, hl⟩)
    have t1 := t0.kept u56 (fun b hb hS => by have := l3 b hS; omega)
    refine t1.mono ?_
    intro b hb _
    refine ⟨by omega, fun e => ?_⟩
    rcases hn' b e with h | h
    · have := l3 b h; omega
    · omega
  · rcases hn' b hb with h1 | h1
    · exact h.n3 b h1
    · omega
theorem Upd.setRow {S : Nat → Prop} {a w : World} (h : Upd S a w) (g : Nat) (cs : Array Value) (hS : S g) : Upd S a (w.setRow g cs) :=
  ⟨h.os, h.tape, h.output, by rw [setRow_size]; exact h.size, fun k hk hn => by rw [setRow_other w g k cs (fun e => hn (e ▸ hS))]; exact h.block k hk hn⟩
/-- The children of a finished copy. -/
theorem CopySt.kids {w w2 wr wz : World} {d k : Nat} {a3 : Option Addr} {c3 : Nat} {ks : List Nd} {al : List (Option Addr × Nat)} (h : CopySt w2 wr (d - 1) k a3 c3 ks al) (hw : w.heap.size ≤ w2.heap.size) (hu : Upd (fun b => b < w2.heap.size) wr wz) (h0 : d = 0 → ks = []) : KidsIn wz (fun b => w.heap.size ≤ b) d a3 ks := by
  cases d with
  | zero => exact h0 rfl
  | succ e =>
    refine KidsIn.ofRows (n := k) (c := c3) (al := al) (h.out.sl.kept hu (fun b hb _ => ?_)) ((h.nodes.kept hu (fun b hb => ?_)).mono ?_) (fun b hb _ => ?_)
    · have := h.n3 b hb; omega
    · have := hb.1; omega
    · intro b hb _; exact Nat.le_trans hw hb.1
    · exact Nat.le_trans hw (h.n3 b hb)
theorem row_set40 (n : Nd) (a a' : Option Addr) (c c' : Nat) (h : n.v.wf) : (n.row a c).toArray.setIfInBounds 40 (.slice a' n.kids.length c') = (n.row a' c').toArray := by
  have hl := n.v.cells_length h
  apply Array.ext'
  rw [Array.toList_setIfInBounds]
  show (.string n.name :: (n.v.cells ++ (mcells n.m ++ [Value.slice a n.kids.length c]))).set (39 + 1) _ = _
  rw [List.set_cons_succ, List.set_append_right _ _ (by omega), hl]
  rfl
theorem row_set0 (n : Nd) (a : Option Addr) (c : Nat) (s : ByteArray) : (n.row a c).toArray.setIfInBounds 0 (.string s) = ((n.named s).row a c).toArray := by
  apply Array.ext'
  rw [Array.toList_setIfInBounds]
  rfl
theorem node_zero : Try.prog.cellsOf 30 = 41 := by kernel_rfl
set_option maxHeartbeats 4000000 in
set_option maxRecDepth 100000 in
theorem copy_step (F : Nat → Prop) (d : Nat) (ih : ∀ e, d = e + 1 → ∀ (w : World) (n : Nd) (a : Option Addr) (c : Nat), NodeIn w F e n a → (∀ b, F b → b < w.heap.size) → n.parts ≤ 1000000 →
      Calls Try.prog 18 #[.agg (n.row a c).toArray] w fun e' w' => ∃ (a' : Option Addr) (c' : Nat), e' = .returned (.agg (n.row a' c').toArray) ∧ NodeIn w' (fun b => w.heap.size ≤ b) e n a' ∧ Below w.heap.size w w')
    (w : World) (n : Nd) (a : Option Addr) (c : Nat) (hn : NodeIn w F d n a) (hFw : ∀ b, F b → b < w.heap.size) (hpt : n.parts ≤ 1000000) :
    Calls Try.prog 18 #[.agg (n.row a c).toArray] w fun e' w' => ∃ (a' : Option Addr) (c' : Nat), e' = .returned (.agg (n.row a' c').toArray) ∧ NodeIn w' (fun b => w.heap.size ≤ b) d n a' ∧ Below w.heap.size w w' := by
  obtain ⟨i0, hi, hz0, hz1, hz2⟩ := info_parts info_nodeF
  have Ih := Lib.hid ih
  have hkz := hn.ksz
  obtain ⟨m, hm⟩ : ∃ m, m = n.kids.length := ⟨_, rfl⟩
  have hmp := partsAll_len n.kids
  have hme : m ≤ 1000000 := by have := parts_eq n; omega
  have Hn := Lib.hid hn
  have Hm := Lib.hid hm
  have Hpt := Lib.hid (show partsAll n.kids ≤ 1000000 by have := parts_eq n; omega)
  have hnsz := Lib.hid (show (n.row a c).toArray.size = 41 by rw [List.size_toArray]; exact row_len hn.vwf)
  clear hn hm hkz ih hpt hmp
  go_enter Try.func18, Try.ntmps18
  go_wp2_with fail
  have hblk := (Below.heap_alloc (w.alloc (.cells (n.row a c).toArray 30)) (.cells #[.string ⟨#[]⟩, .int .i64 0, .int .i64 0, .int .i64 0, .int .u8 0, .int .u8 0, .int .u8 0, .int .u8 0, .int .u8 0, .int .u8 0, .int .u8 0, .int .u8 0, .int .u8 0, .int .u8 0, .int .u8 0, .int .u8 0, .int .u8 0, .int .u8 0, .int .u8 0, .int .u8 0, .int .u8 0, .int .u8 0, .int .u8 0, .int .u8 0, .int .u8 0, .int .u8 0, .int .u8 0, .int .u8 0, .int .u8 0, .int .u8 0, .int .u8 0, .int .u8 0, .int .u8 0, .int .u8 0, .int .u8 0, .int .u8 0, .int .i64 0, .int .i64 0, .int .i64 0, .int .i64 0, .slice none 0 0] 30) w.heap.size (by simp)).trans (heap_alloc_new w (.cells (n.row a c).toArray 30))
  have hres := heap_alloc_new (w.alloc (.cells (n.row a c).toArray 30)) (.cells #[.string ⟨#[]⟩, .int .i64 0, .int .i64 0, .int .i64 0, .int .u8 0, .int .u8 0, .int .u8 0, .int .u8 0, .int .u8 0, .int .u8 0, .int .u8 0, .int .u8 0, .int .u8 0, .int .u8 0, .int .u8 0, .int .u8 0, .int .u8 0, .int .u8 0, .int .u8 0, .int .u8 0, .int .u8 0, .int .u8 0, .int .u8 0, .int .u8 0, .int .u8 0, .int .u8 0, .int .u8 0, .int .u8 0, .int .u8 0, .int .u8 0, .int .u8 0, .int .u8 0, .int .u8 0, .int .u8 0, .int .u8 0, .int .u8 0, .int .i64 0, .int .i64 0, .int .i64 0, .int .i64 0, .slice none 0 0] 30)
  rw [World.size_alloc] at hres
  have hbl := on_alloc (on_alloc (Below.refl _ w) (.cells (n.row a c).toArray 30)) (.cells #[.string ⟨#[]⟩, .int .i64 0, .int .i64 0, .int .i64 0, .int .u8 0, .int .u8 0, .int .u8 0, .int .u8 0, .int .u8 0, .int .u8 0, .int .u8 0, .int .u8 0, .int .u8 0, .int .u8 0, .int .u8 0, .int .u8 0, .int .u8 0, .int .u8 0, .int .u8 0, .int .u8 0, .int .u8 0, .int .u8 0, .int .u8 0, .int .u8 0, .int .u8 0, .int .u8 0, .int .u8 0, .int .u8 0, .int .u8 0, .int .u8 0, .int .u8 0, .int .u8 0, .int .u8 0, .int .u8 0, .int .u8 0, .int .u8 0, .int .i64 0, .int .i64 0, .int .i64 0, .int .i64 0, .slice none 0 0] 30)
  generalize (w.alloc (.cells (n.row a c).toArray 30)).alloc (.cells #[.string ⟨#[]⟩, .int .i64 0, .int .i64 0, .int .i64 0, .int .u8 0, .int .u8 0, .int .u8 0, .int .u8 0, .int .u8 0, .int .u8 0, .int .u8 0, .int .u8 0, .int .u8 0, .int .u8 0, .int .u8 0, .int .u8 0, .int .u8 0, .int .u8 0, .int .u8 0, .int .u8 0, .int .u8 0, .int .u8 0, .int .u8 0, .int .u8 0, .int .u8 0, .int .u8 0, .int .u8 0, .int .u8 0, .int .u8 0, .int .u8 0, .int .u8 0, .int .u8 0, .int .u8 0, .int .u8 0, .int .u8 0, .int .u8 0, .int .i64 0, .int .i64 0, .int .i64 0, .int .i64 0, .slice none 0 0] 30) = w2 at hblk hres hbl ⊢
  obtain ⟨Z, hZ⟩ : ∃ Z : Array Value, Z = #[.string ⟨#[]⟩, .int .i64 0, .int .i64 0, .int .i64 0, .int .u8 0, .int .u8 0, .int .u8 0, .int .u8 0, .int .u8 0, .int .u8 0, .int .u8 0, .int .u8 0, .int .u8 0, .int .u8 0, .int .u8 0, .int .u8 0, .int .u8 0, .int .u8 0, .int .u8 0, .int .u8 0, .int .u8 0, .int .u8 0, .int .u8 0, .int .u8 0, .int .u8 0, .int .u8 0, .int .u8 0, .int .u8 0, .int .u8 0, .int .u8 0, .int .u8 0, .int .u8 0, .int .u8 0, .int .u8 0, .int .u8 0, .int .u8 0, .int .i64 0, .int .i64 0, .int .i64 0, .int .i64 0, .slice none 0 0] := ⟨_, rfl⟩
  obtain ⟨B, hB⟩ : ∃ B, B = w.heap.size := ⟨_, rfl⟩
  obtain ⟨R, hR⟩ : ∃ R, R = w.heap.size + 1 := ⟨_, rfl⟩
  have hZs := Lib.hid (show Z.size = 41 by rw [hZ]; rfl)
  rw [← hZ, ← hR] at hres
  rw [← hB] at hblk
  rw [← hR, ← hB]
  have hBR : B ≠ R := by omega
  have hBw : w.heap.size ≤ B := by omega
  have hRw : w.heap.size ≤ R := by omega
  have Hblk := Lib.hid hblk
  have Hres := Lib.hid hres
  have Hbl := Lib.hid hbl
  have hB2 : B < w2.heap.size := lt_heap hblk
  have hR2 : R < w2.heap.size := lt_heap hres
  have hw2 : w.heap.size ≤ w2.heap.size := hbl.size
  clear hblk hres hbl hZ hB hR
  go_loopw [3, 4] (fun v i wr => ∃ (k : Nat) (a3 : Option Addr) (c3 : Nat) (al : List (Option Addr × Nat)), k ≤ m ∧ i = .int .i64 k ∧ v = .slice a3 k c3 ∧ wr.heap[B]? = some (.cells (n.row a c).toArray 30 (0, 0)) ∧ wr.heap[R]? = some (.cells Z 30 (0, 0)) ∧ CopySt w2 wr (d - 1) k a3 c3 (n.kids.take k) al ∧ Below w2.heap.size w2 wr) (fun _ i _ => m - (intOf i).toNat)
  case atStart => exact ⟨0, none, 0, [], Nat.zero_le _, rfl, rfl, Hblk.out, Hres.out, ⟨Own.nil _ _ _, ⟨rfl, fun i k a c h => by simp at h⟩, fun b hb => by simp [Value.ownBlock] at hb⟩, Below.refl _ _⟩
  case round =>
    obtain ⟨k, a3, c3, al, hk, rfl, rfl, hbk, hrs, hst, hbe⟩ := hrel
    obtain ⟨kt, hkt⟩ : ∃ kt, kt = n.kids.take k := ⟨_, rfl⟩
    rw [← hkt] at hst
    have Hkt := Lib.hid hkt
    have Hbk := Lib.hid hbk
    have Hrs := Lib.hid hrs
    have Hst := Lib.hid hst
    have Hbe := Lib.hid hbe
    obtain ⟨_, _, _, f40⟩ := nrow_at (o := 0) Hn.out.vwf (rangeAt_row hbk)
    simp only [Nat.zero_add] at f40
    rw [← Hm.out] at f40
    clear hbk hrs hst hbe hkt
    by_cases hlt : k < m
    · have hd : ∃ e, d = e + 1 := by
        cases d with
        | zero => exfalso; have h0 : n.kids = [] := Hn.out.kids; have := Hm.out; rw [h0] at this; simp at this; omega
        | succ e => exact ⟨e, rfl⟩
      obtain ⟨d', hd⟩ := hd
      have ihe := Ih.out d' hd
      have hkn := Hn.out.kids
      rw [hd] at hkn
      obtain ⟨g, off, a', c', rfl, hF, hr, hni⟩ := ((hkn.below Hbl.out).below Hbe.out).at (i := k) (by rw [← Hm.out]; exact hlt)
      obtain ⟨x, hx⟩ : ∃ x, x = n.kids[k]'(by rw [← Hm.out]; exact hlt) := ⟨_, rfl⟩
      rw [← hx] at hr hni
      have Hr := Lib.hid (And.intro hr hni)
      have Hx := Lib.hid hx
      have Ihe := Lib.hid ihe
      have Hd := Lib.hid (show d - 1 = d' by omega)
      have hvwf := Lib.hid (row_len (a := a') (c := c') hni.vwf)
      have hx32 := Lib.hid hni.vwf.1
      have i1 : (0 : Int) ≤ (k : Int) := by omega
      have i2 : (k : Int) < (m : Int) := by omega
      have hx6 : x.parts ≤ 1000000 := by rw [hx]; exact Nat.le_trans (partsAll_get _) Hpt.out
      have hws := Hbe.out.size
      clear hr hni hx hkn ihe hd
      go_wp2_with (refine wpList_load_midg (by rfl) 30 (.tmp 16) rfl g (off + k * 41) rfl (x.row a' c') _ Hr.out.1 Try.underlying30 rfl (by rw [hvwf.out]; kernel_rfl) ?_)
      refine (Ihe.out wr x a' c' Hr.out.2 (fun b hb => Nat.lt_of_lt_of_le (hFw b hb) (Nat.le_trans hw2 hws)) hx6).mono ?_
      rintro e w5 ⟨ax, cx, rfl, hxn, hb5⟩
      have Hxn := Lib.hid hxn
      have Hb5 := Lib.hid hb5
      have hout5 := Lib.hid (Hst.out.out.kept (Upd.below hb5 (fun _ => False)) (fun _ _ => id))
      have hb5s := hb5.size
      clear hxn hb5
      go_wp2_with (first | (refine wpList_buildSlice_eq (by rfl) 28 1 #[(0, .tmp 18)] rfl #[(0, .agg (x.row ax cx).toArray)] (by kernel_rfl) _ (build_node x ax cx hx32.out _) ?_) | (at_builtin; refine wpList_append_any rfl _ _ 28 rfl 30 i0 _ 41 128 Try.underlying28 hi hz0 hz1 hz2 rfl (by decide) (.slice a3 k c3) k (rowsOf kt al) (.slice (some ⟨w5.heap.size, 0, none⟩) 1 1) 1 (x.row ax cx) rfl rfl (hout5.out.kept ((Upd.refl (fun _ => False) w5).alloc _) (fun _ _ => id)) (Sl.made _ _ _ _ _ _ _ _ (List.toList_toArray ..) (by rw [row_len (show x.v.wf from Hr.out.2.vwf)]) (by omega)) (nrow_one _ _ _ _ _ _) (by omega) (by omega) ?_))
      intro a7 c7 w7 hown7 hgr7 hb7
      have hu57 : Upd (fun b => (Value.slice a3 k c3).ownBlock = some b) w5 w7 := Upd.grown ((Upd.refl _ w5).alloc _) hgr7 (fun b hb _ => hb)
      have hbk5 := (Hb5.out.block B (lt_heap Hbk.out)).trans Hbk.out
      have hrs5 := (Hb5.out.block R (lt_heap Hrs.out)).trans Hrs.out
      have Hbk7 := Lib.hid (hu57.at_ hbk5 (fun hS => by have := Hst.out.n3 B hS; omega))
      have Hrs7 := Lib.hid (hu57.at_ hrs5 (fun hS => by have := Hst.out.n3 R hS; omega))
      have hst7 := Hst.out.next hws Hb5.out cx (by rw [Hd.out]; exact Hxn.out) hown7 hgr7 (by simpa using hb7)
      have Hst7 := Lib.hid hst7
      have Hbe7 := Lib.hid ((Hbe.out.upd (Nat.le_refl _) (Upd.below Hb5.out (fun _ => False)) (fun b hb => hb.elim)).upd (Nat.le_refl _) hu57 (fun b hb => Hst.out.n3 b hb))
      clear hown7 hgr7 hb7 hu57 hbk5 hrs5 hst7 f40
      go_wp2
      go_roundw
      case rel =>
        refine ⟨k + 1, a7, c7, al ++ [(ax, cx)], hlt, by go_num, rfl, Hbk7.out, Hrs7.out, ?_, Hbe7.out⟩
        rw [List.take_succ_eq_append_getElem (by rw [← Hm.out]; exact hlt), ← Hkt.out, ← Hx.out]
        exact Hst7.out
      case measure => simp [intOf]; omega
    · obtain rfl : k = m := by omega
      clear hlt
      have hke : kt = n.kids := by rw [Hkt.out]; exact List.take_of_length_le (by rw [← Hm.out]; exact Nat.le_refl _)
      have hs := Hst.out
      rw [hke] at hs
      have z40 := frozen_of_row wr B 40 _ _ Hbk.out
      have hs40 := heap_setCell_same wr B 40 _ _ (.slice a3 k c3) Hbk.out
      have e40 : (n.row a c).toArray.setIfInBounds 40 (.slice a3 k c3) = (n.row a3 c3).toArray := by rw [Hm.out]; exact row_set40 n a a3 c c3 Hn.out.vwf
      rw [e40] at hs40
      have hu1 : Upd (fun b => b = B) wr (wr.setCell ⟨B, 40, none⟩ (.slice a3 k c3)) := (Upd.refl _ _).setCell _ _ (fun _ => rfl)
      have Hrs2 := Lib.hid (hu1.at_ Hrs.out (fun e => hBR e.symm))
      have Hrow2 := Lib.hid (rangeAt_row hs40)
      have Hu1 := Lib.hid hu1
      have Hs := Lib.hid hs
      have hn41 := Lib.hid (row_len (a := a3) (c := c3) Hn.out.vwf)
      have hn41s := Lib.hid (show (n.row a3 c3).toArray.size = 41 by rw [List.size_toArray]; exact hn41.out)
      clear hke hs hs40 hu1 e40
      go_wp2_with (first | (refine wpList_load_midg (by rfl) 30 (.tmp 1) rfl B 0 rfl (n.row a3 c3) _ Hrow2.out Try.underlying30 rfl (by rw [hn41.out]; kernel_rfl) ?_) | (refine wpList_store_row rfl 30 (.tmp 2) (.tmp 23) rfl R (n.row a3 c3).toArray rfl rfl 30 Z Hrs2.out (by rw [hn41s.out]; kernel_rfl) (by rw [hn41s.out, hZs.out]) (all_one (nrow_one _ _ _ _ _ _)) ?_))
      have hset := setRow_heap (wr.setCell ⟨B, 40, none⟩ (.slice a3 k c3)) R Z (n.row a3 c3).toArray 30 (0, 0) Hrs2.out
      have hn0 : d = 0 → n.kids = [] := by
        intro e; subst e; exact Hn.out.kids
      refine bodyPost_ret (results_cell_row (P := Try.prog) Try.results18 _ _ R 30 (n.row a3 c3).toArray (0, 0) _ rfl hset Try.underlying30 rfl (by rw [hn41s.out]; kernel_rfl)) rfl ⟨a3, c3, rfl, ⟨Hn.out.vwf, Hn.out.mwf, Hn.out.nsz, Hn.out.ksz, ?_⟩, ?_⟩
      · exact Hs.out.kids hw2 ((Hu1.out.mono (fun b _ hb => by omega)).setRow R _ hR2) hn0
      · exact below_setRow ((Hbl.out.trans (Hbe.out.mono hw2)).upd (Nat.le_refl _) Hu1.out (fun b hb => by omega)) hRw _
theorem copy_ok : ∀ (d : Nat) (F : Nat → Prop) (w : World) (n : Nd) (a : Option Addr) (c : Nat), NodeIn w F d n a → (∀ b, F b → b < w.heap.size) → n.parts ≤ 1000000 →
      Calls Try.prog 18 #[.agg (n.row a c).toArray] w fun e' w' => ∃ (a' : Option Addr) (c' : Nat), e' = .returned (.agg (n.row a' c').toArray) ∧ NodeIn w' (fun b => w.heap.size ≤ b) d n a' ∧ Below w.heap.size w w'
  | 0, F, w, n, a, c, hn, hF, hp => copy_step F 0 (fun e he => by omega) w n a c hn hF hp
  | d + 1, F, w, n, a, c, hn, hF, hp => copy_step F (d + 1) (fun e he => by
      obtain rfl : d = e := Nat.succ.inj he
      exact copy_ok d F) w n a c hn hF hp
end Go.Proofs.Ythnbinlllmkabaa
