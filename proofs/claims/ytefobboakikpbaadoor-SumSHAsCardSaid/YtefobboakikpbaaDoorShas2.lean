/- A room in which a list of lists of bytes was laid: plain words. -/
import Derived.Test.YtefobboakikpbaaDoorShas1
import Derived.Test.YtefobboakikpbaaDoorRoom1
namespace Go.Proofs.YtefobboakikpbaaDoor
open Go.RowKit
set_option linter.unusedVariables false
set_option linter.unusedSimpArgs false

theorem blk (a : Option Addr) (n c n' c' : Nat) : (Value.slice a n c).ownBlock = (Value.slice a n' c').ownBlock := by cases a <;> rfl
/-- A list of bytes that was laid, with four marks behind it. -/
def LotAt (w : World) (B : Nat) (v x z : Value) (l : List UInt8) : Prop :=
  ∃ (af : Option Addr) (cf : Nat), v = .slice af l.length (l.length + 4) ∧ x = .slice af (l.length + 4) cf ∧ z = .int .i64 (l.length : Nat) ∧
    Own w 5 1 (.slice af (l.length + 4) cf) (l.length + 4) (bytes (l ++ marks 4)) ∧ ∀ b, v.ownBlock = some b → B ≤ b
theorem LotAt.kept {S : Nat → Prop} {w w' : World} {B : Nat} {v x z : Value} {l : List UInt8} (h : LotAt w B v x z l) (hu : Upd S w w') (hS : ∀ b, v.ownBlock = some b → ¬ S b) : LotAt w' B v x z l := by
  obtain ⟨af, cf, rfl, rfl, rfl, h4, h5⟩ := h
  exact ⟨af, cf, rfl, rfl, rfl, h4.kept hu (fun b hb => hS b ((blk _ _ _ _ _).trans hb)), h5⟩
theorem LotAt.lt {w : World} {B : Nat} {v x z : Value} {l : List UInt8} (h : LotAt w B v x z l) {b : Nat} (hb : v.ownBlock = some b) : b < w.heap.size := by
  obtain ⟨af, cf, rfl, rfl, rfl, h4, h5⟩ := h
  exact h4.lt ((blk _ _ _ _ _).trans hb)
theorem LotAt.apart {w : World} {B p : Nat} {v x z : Value} {l : List UInt8} {cs : Array Value} {T : TypeId} {fr : Nat × Nat} (h : LotAt w B v x z l) (hp : w.heap[p]? = some (.cells cs T fr)) (hne : 5 ≠ T) {b : Nat} (hb : v.ownBlock = some b) : b ≠ p := by
  obtain ⟨af, cf, rfl, rfl, rfl, h4, h5⟩ := h
  have := h4.apart hp hne
  intro e
  subst e
  exact this ((blk _ _ _ _ _).trans hb)
theorem LotAt.parted {w : World} {B n : Nat} {v x z v' : Value} {l : List UInt8} {e' : TypeId} {xs : List Value} (h : LotAt w B v x z l) (ho : Own w e' 1 v' n xs) (hne : 5 ≠ e') {b : Nat} (hb : v.ownBlock = some b) : v'.ownBlock ≠ some b := by
  obtain ⟨af, cf, rfl, rfl, rfl, h4, h5⟩ := h
  exact h4.parted ho hne b ((blk _ _ _ _ _).trans hb)

/-- Lists that were laid, each in a block of its own. -/
structure Lots (w : World) (B k : Nat) (vs xb xa : List Value) (Ps : List (List UInt8)) : Prop where
  lv : vs.length = k
  lb : xb.length = k
  la : xa.length = k
  at_ : ∀ i, i < k → ∃ v x z, vs[i]? = some v ∧ xb[i]? = some x ∧ xa[i]? = some z ∧ LotAt w B v x z (Ps.getD i [])
  apart : ∀ (i j : Nat) (vi vj : Value) (b : Nat), i ≠ j → vs[i]? = some vi → vs[j]? = some vj → vi.ownBlock = some b → vj.ownBlock ≠ some b
theorem Lots.nil (w : World) (B : Nat) (Ps : List (List UInt8)) : Lots w B 0 [] [] [] Ps :=
  ⟨rfl, rfl, rfl, fun i hi => absurd hi (Nat.not_lt_zero _), fun i j vi vj b _ h => by simp at h⟩
theorem Lots.kept {S : Nat → Prop} {w w' : World} {B k : Nat} {vs xb xa : List Value} {Ps : List (List UInt8)} (h : Lots w B k vs xb xa Ps) (hu : Upd S w w') (hS : ∀ (v x z : Value) (l : List UInt8) (b : Nat), LotAt w B v x z l → v.ownBlock = some b → ¬ S b) : Lots w' B k vs xb xa Ps :=
  ⟨h.lv, h.lb, h.la, fun i hi => by obtain ⟨v, x, z, h1, h2, h3, h4⟩ := h.at_ i hi; exact ⟨v, x, z, h1, h2, h3, h4.kept hu (fun b hb => hS _ _ _ _ b h4 hb)⟩, h.apart⟩
theorem Lots.push {w : World} {B k : Nat} {vs xb xa : List Value} {Ps : List (List UInt8)} (h : Lots w B k vs xb xa Ps) {v x z : Value} (hn : LotAt w B v x z (Ps.getD k [])) (hfresh : ∀ (i : Nat) (vi : Value) (b : Nat), vs[i]? = some vi → vi.ownBlock = some b → v.ownBlock ≠ some b) :
    Lots w B (k + 1) (vs ++ [v]) (xb ++ [x]) (xa ++ [z]) Ps := by
  refine ⟨by simp [h.lv], by simp [h.lb], by simp [h.la], fun i hi => ?_, fun i j vi vj b hij h1 h2 hb => ?_⟩
  · by_cases hk : i < k
    · obtain ⟨v1, x1, z1, h1, h2, h3, h4⟩ := h.at_ i hk
      exact ⟨v1, x1, z1, by rw [List.getElem?_append_left (by rw [h.lv]; exact hk), h1], by rw [List.getElem?_append_left (by rw [h.lb]; exact hk), h2], by rw [List.getElem?_append_left (by rw [h.la]; exact hk), h3], h4⟩
    · obtain rfl : i = k := by omega
      exact ⟨v, x, z, by rw [← h.lv]; simp, by rw [← h.lb]; simp, by rw [← h.la]; simp, hn⟩
  · have new : ∀ (q : Nat) (vq : Value), (vs ++ [v])[q]? = some vq → (q < k ∧ vs[q]? = some vq) ∨ (q = k ∧ vq = v) := by
      intro q vq hq
      by_cases hk : q < k
      · rw [List.getElem?_append_left (by rw [h.lv]; exact hk)] at hq
        exact .inl ⟨hk, hq⟩
      · have hq2 := (List.getElem?_eq_some_iff.1 hq).1
        simp [h.lv] at hq2
        obtain rfl : q = k := by omega
        rw [← h.lv] at hq
        simp at hq
        exact .inr ⟨rfl, hq.symm⟩
    rcases new i vi h1 with ⟨hi, h1'⟩ | ⟨hi, rfl⟩
    · rcases new j vj h2 with ⟨hj, h2'⟩ | ⟨hj, rfl⟩
      · exact h.apart i j vi vj b hij h1' h2' hb
      · exact hfresh i vi b h1' hb
    · rcases new j vj h2 with ⟨hj, h2'⟩ | ⟨hj, rfl⟩
      · intro hb'
        exact hfresh j vj b h2' hb' hb
      · omega
/-- Parts that lie in lots. -/
theorem Lots.parts {w : World} {B k : Nat} {vs xb xa more : List Value} {Ps : List (List UInt8)} (h : Lots w B k vs xb xa Ps) (hPs : Ps.length = k) {a : Option Addr} {c n : Nat} (hs : Sl w 1 (.slice a n c) n (vs ++ more)) (hkn : k ≤ n) (c' : Nat) : Parts w (.slice a k c') Ps := by
  refine ⟨vs, ?_, fun i hi => ?_⟩
  · obtain ⟨a0, c0, he, hl, hm, hc⟩ := hs
    injection he with h1 _ _
    subst h1
    refine ⟨a, c', by rw [hPs], by rw [h.lv, hPs]; omega, by rw [hPs]; omega, fun hx => ?_⟩
    obtain ⟨ad, h2, h3⟩ := hc (by intro e; apply hx; simp at e; exact e.1)
    exact ⟨ad, h2, fun j u hj => h3 j u (by rw [List.getElem?_append_left (List.getElem?_eq_some_iff.1 hj).1]; exact hj)⟩
  · obtain ⟨v, x, z, h1, h2, h3, af, cf, rfl, rfl, rfl, h4, h5⟩ := h.at_ i (by omega)
    refine ⟨af, _, h1, ?_⟩
    obtain ⟨a0, c0, he, hl, hm, hc⟩ := h4.sl
    injection he with h1 _ _
    subst h1
    refine ⟨af, _, rfl, by rw [bytes_length, Nat.mul_one], by omega, fun hx => ?_⟩
    obtain ⟨ad, h2, h3⟩ := hc (by intro e; apply hx; rw [bytes_append] at e; simp at e; exact e.1)
    exact ⟨ad, h2, fun j u hj => h3 j u (by rw [bytes_append, List.getElem?_append_left (List.getElem?_eq_some_iff.1 hj).1]; exact hj)⟩
/-- While the lists are laid: k of them. -/
structure Lay1 (w wr : World) (p k : Nat) (ab aa a3 : Option Addr) (cb ca c3 : Nat) (xb xa vs : List Value) (Ps : List (List UInt8)) : Prop where
  room : RoomAt wr p (.slice ab k cb) (.slice aa k ca) (.slice none 0 0) (.slice none 0 0)
  ob : Own wr 24 1 (.slice ab k cb) k xb
  oa : Own wr 3 1 (.slice aa k ca) k xa
  o3 : Own wr 24 1 (.slice a3 k c3) k vs
  lots : Lots wr w.heap.size k vs xb xa Ps
  nb : ∀ b, (Value.slice ab k cb).ownBlock = some b → w.heap.size ≤ b
  na : ∀ b, (Value.slice aa k ca).ownBlock = some b → w.heap.size ≤ b
  n3 : ∀ b, (Value.slice a3 k c3).ownBlock = some b → w.heap.size ≤ b
  d3 : ∀ b, (Value.slice a3 k c3).ownBlock = some b → (Value.slice ab k cb).ownBlock ≠ some b
  upd : Upd (fun b => b = p) w wr
/-- One list more. -/
theorem Lay1.next {w wr w1 w2 : World} {p k : Nat} {ab aa a3 : Option Addr} {cb ca c3 : Nat} {xb xa vs : List Value} {Ps : List (List UInt8)} (h : Lay1 w wr p k ab aa a3 cb ca c3 xb xa vs Ps)
    {n : Nat} (hn : (Ps.getD k []).length = n) {af ab' aa' : Option Addr} {cf cb' ca' : Nat}
    (hr : RoomAt w1 p (.slice ab' (k + 1) cb') (.slice aa' (k + 1) ca') (.slice none 0 0) (.slice none 0 0)) (hob : Own w1 24 1 (.slice ab' (k + 1) cb') (k + 1) (xb ++ [.slice af (n + 4) cf]))
    (hoa : Own w1 3 1 (.slice aa' (k + 1) ca') (k + 1) (xa ++ [.int .i64 (n : Nat)])) (hof : Own w1 5 1 (.slice af (n + 4) cf) (n + 4) (bytes (Ps.getD k [] ++ marks 4)))
    (hnf : ∀ b, (Value.slice af (n + 4) cf).ownBlock = some b → wr.heap.size ≤ b) (hnb : ∀ b, (Value.slice ab' (k + 1) cb').ownBlock = some b → (Value.slice ab k cb).ownBlock = some b ∨ wr.heap.size ≤ b)
    (hna : ∀ b, (Value.slice aa' (k + 1) ca').ownBlock = some b → (Value.slice aa k ca).ownBlock = some b ∨ wr.heap.size ≤ b) (hu1 : Upd (fun b => b = p ∨ (Value.slice ab k cb).ownBlock = some b ∨ (Value.slice aa k ca).ownBlock = some b) wr w1)
    {a4 : Option Addr} {c4 : Nat} {o : Obj} (h3 : Own w2 24 1 (.slice a4 (k + 1) c4) (k + 1) (vs ++ [.slice af n (n + 4)])) (hg : (w1.alloc o).grownBy w2 (Value.slice a3 k c3).ownBlock)
    (hnew : ∀ b, (Value.slice a3 k c3).ownBlock ≠ some b → (Value.slice a4 (k + 1) c4).ownBlock = some b → w1.heap.size + 1 ≤ b) :
    Lay1 w w2 p (k + 1) ab' aa' a4 cb' ca' c4 (xb ++ [.slice af (n + 4) cf]) (xa ++ [.int .i64 (n : Nat)]) (vs ++ [.slice af n (n + 4)]) Ps := by
  subst hn
  have hwr := h.upd.size
  have hs1 := hu1.size
  have hu2 : Upd (fun b => (Value.slice a3 k c3).ownBlock = some b) w1 w2 := Upd.grown ((Upd.refl _ w1).alloc o) hg (fun b hb _ => hb)
  have hs2 := hu2.size
  -- block of the growing list in w1
  have h3w1 : ∀ b, (Value.slice a3 k c3).ownBlock = some b → b < wr.heap.size := fun b hb => h.o3.lt hb
  have h3p : ∀ b, (Value.slice a3 k c3).ownBlock = some b → b ≠ p := fun b hb e => h.o3.apart h.room (by decide) (e ▸ hb)
  have h3a : ∀ b, (Value.slice a3 k c3).ownBlock = some b → (Value.slice aa k ca).ownBlock ≠ some b := fun b hb => h.o3.parted h.oa (by decide) b hb
  have ho3 : Own w1 24 1 (.slice a3 k c3) k vs := h.o3.kept hu1 (fun b hb hS => by
    rcases hS with hS | hS | hS
    · exact h3p b hb hS
    · exact h.d3 b hb hS
    · exact h3a b hb hS)
  have hlots1 : Lots w1 w.heap.size k vs xb xa Ps := h.lots.kept hu1 (fun v x z l b hl hb hS => by
    rcases hS with hS | hS | hS
    · exact hl.apart h.room (by decide) hb hS
    · exact hl.parted h.ob (by decide) hb hS
    · exact hl.parted h.oa (by decide) hb hS)
  have hlots2 : Lots w2 w.heap.size k vs xb xa Ps := hlots1.kept hu2 (fun v x z l b hl hb hS => hl.parted ho3 (by decide) hb hS)
  have hf3 : ∀ b, (Value.slice af ((Ps.getD k []).length + 4) cf).ownBlock = some b → (Value.slice a3 k c3).ownBlock ≠ some b := fun b hb => hof.parted ho3 (by decide) b hb
  refine ⟨hu2.at_ hr (fun hS => h3p p hS rfl), hob.kept hu2 (fun b hb hS => ?_), hoa.kept hu2 (fun b hb hS => hoa.parted ho3 (by decide) b hb hS), h3, hlots2.push ⟨af, cf, rfl, rfl, rfl, hof.kept hu2 (fun b hb hS => hf3 b hb hS), fun b hb => Nat.le_trans hwr (hnf b ((blk _ _ _ _ _).trans hb))⟩ (fun i vi b hi hb hb' => ?_), fun b hb => ?_, fun b hb => ?_, fun b hb => ?_, fun b hb hb' => ?_, ?_⟩
  · rcases hnb b hb with h1 | h1
    · exact h.d3 b hS h1
    · have := h3w1 b hS; omega
  · have hi' : i < k := by rw [← h.lots.lv]; exact (List.getElem?_eq_some_iff.1 hi).1
    obtain ⟨v, x, z, g1, _, _, g4⟩ := h.lots.at_ i hi'
    rw [hi] at g1
    injection g1 with g1
    subst g1
    have h5 := g4.lt hb
    have h6 := hnf b ((blk _ _ _ _ _).trans hb')
    omega
  · rcases hnb b hb with h1 | h1
    · exact h.nb b h1
    · omega
  · rcases hna b hb with h1 | h1
    · exact h.na b h1
    · omega
  · by_cases h1 : (Value.slice a3 k c3).ownBlock = some b
    · exact h.n3 b h1
    · have := hnew b h1 hb; omega
  · by_cases h1 : (Value.slice a3 k c3).ownBlock = some b
    · rcases hnb b hb' with h2 | h2
      · exact h.d3 b h1 h2
      · have := h3w1 b h1; omega
    · have h4 := hnew b h1 hb
      have h5 := hob.lt hb'
      omega
  · refine (h.upd.then hu1 (fun b hb hS => ?_)).then hu2 (fun b hb hS => ?_)
    · rcases hS with hS | hS | hS
      · exact hS
      · have := h.nb b hS; omega
      · have := h.na b hS; omega
    · have := h.n3 b hS; omega
/-- Bytes of marks behind the lists. -/
def MarksIn (w : World) (vs more : List Value) (j : Nat) : Prop := more.length = j ∧ ∀ i, i < j → ∃ g, more[i]? = some (.slice (some ⟨g, 0, none⟩) 1 1) ∧ w.heap[g]? = some (.cells #[.int .u8 ((mark i).toNat : Int)] 5 (0, 0)) ∧ (∀ v b, v ∈ vs → v.ownBlock = some b → b ≠ g)
theorem MarksIn.kept {S : Nat → Prop} {w w' : World} {vs more : List Value} {j : Nat} (h : MarksIn w vs more j) (hu : Upd S w w') (hS : ∀ g z, w.heap[g]? = some (.cells #[.int .u8 z] 5 (0, 0)) → (∀ v b, v ∈ vs → v.ownBlock = some b → b ≠ g) → ¬ S g) : MarksIn w' vs more j := by
  refine ⟨h.1, fun i hi => ?_⟩
  obtain ⟨g, h1, h2, h3⟩ := h.2 i hi
  exact ⟨g, h1, hu.at_ h2 (hS g _ h2 h3), h3⟩
theorem MarksIn.push {w : World} {vs more : List Value} {j : Nat} (h : MarksIn w vs more j) (g : Nat) (hg : w.heap[g]? = some (.cells #[.int .u8 ((mark j).toNat : Int)] 5 (0, 0))) (hd : ∀ v b, v ∈ vs → v.ownBlock = some b → b ≠ g) : MarksIn w vs (more ++ [.slice (some ⟨g, 0, none⟩) 1 1]) (j + 1) := by
  refine ⟨by simp [h.1], fun i hi => ?_⟩
  by_cases hij : i < j
  · obtain ⟨g1, h1, h2⟩ := h.2 i hij
    exact ⟨g1, by rw [List.getElem?_append_left (by rw [h.1]; exact hij), h1], h2⟩
  · obtain rfl : i = j := by omega
    exact ⟨g, by rw [← h.1]; simp, hg, hd⟩
/-- While the marks are laid behind the lists. -/
structure Lay2 (w wr : World) (p m j : Nat) (ab aa a3 : Option Addr) (cb ca c3 : Nat) (xb xa vs more : List Value) (Ps : List (List UInt8)) : Prop where
  room : RoomAt wr p (.slice ab m cb) (.slice aa m ca) (.slice none 0 0) (.slice none 0 0)
  ob : Own wr 24 1 (.slice ab m cb) m xb
  oa : Own wr 3 1 (.slice aa m ca) m xa
  o3 : Own wr 24 1 (.slice a3 (m + j) c3) (m + j) (vs ++ more)
  lots : Lots wr w.heap.size m vs xb xa Ps
  marks : MarksIn wr vs more j
  nb : ∀ b, (Value.slice ab m cb).ownBlock = some b → w.heap.size ≤ b
  na : ∀ b, (Value.slice aa m ca).ownBlock = some b → w.heap.size ≤ b
  n3 : ∀ b, (Value.slice a3 (m + j) c3).ownBlock = some b → w.heap.size ≤ b
  d3 : ∀ b, (Value.slice a3 (m + j) c3).ownBlock = some b → (Value.slice ab m cb).ownBlock ≠ some b
  upd : Upd (fun b => b = p) w wr
theorem Lay1.two {w wr : World} {p m : Nat} {ab aa a3 : Option Addr} {cb ca c3 : Nat} {xb xa vs : List Value} {Ps : List (List UInt8)} (h : Lay1 w wr p m ab aa a3 cb ca c3 xb xa vs Ps) : Lay2 w wr p m 0 ab aa a3 cb ca c3 xb xa vs [] Ps :=
  ⟨h.room, h.ob, h.oa, by simpa using h.o3, h.lots, ⟨rfl, fun i hi => absurd hi (Nat.not_lt_zero _)⟩, h.nb, h.na, h.n3, h.d3, h.upd⟩
/-- One mark more: a block of one byte, a block of the one slice, the append. -/
theorem Lay2.next {w wr w1 w2 : World} {p m j : Nat} {ab aa a3 : Option Addr} {cb ca c3 : Nat} {xb xa vs more : List Value} {Ps : List (List UInt8)} (h : Lay2 w wr p m j ab aa a3 cb ca c3 xb xa vs more Ps)
    {g : Nat} {z : Int} (hz : z = ((mark j).toNat : Int)) (hw1 : Upd (fun _ => False) wr w1) (hg1 : wr.heap.size ≤ g) (hg2 : w1.heap[g]? = some (.cells #[.int .u8 z] 5 (0, 0)))
    {a4 : Option Addr} {c4 : Nat} {o : Obj} (h3 : Own w2 24 1 (.slice a4 (m + j + 1) c4) (m + j + 1) (vs ++ (more ++ [.slice (some ⟨g, 0, none⟩) 1 1]))) (hg : (w1.alloc o).grownBy w2 (Value.slice a3 (m + j) c3).ownBlock)
    (hnew : ∀ b, (Value.slice a3 (m + j) c3).ownBlock ≠ some b → (Value.slice a4 (m + j + 1) c4).ownBlock = some b → w1.heap.size + 1 ≤ b) :
    Lay2 w w2 p m (j + 1) ab aa a4 cb ca c4 xb xa vs (more ++ [.slice (some ⟨g, 0, none⟩) 1 1]) Ps := by
  have hu2 : Upd (fun b => (Value.slice a3 (m + j) c3).ownBlock = some b) wr w2 := (hw1.mono fun _ _ h => h.elim).trans (Upd.grown ((Upd.refl _ w1).alloc o) hg (fun b hb _ => hb))
  have hu12 : Upd (fun b => (Value.slice a3 (m + j) c3).ownBlock = some b) w1 w2 := Upd.grown ((Upd.refl _ w1).alloc o) hg (fun b hb _ => hb)
  have hs1 := hw1.size
  have hwr := h.upd.size
  have hlt3 : ∀ b, (Value.slice a3 (m + j) c3).ownBlock = some b → b < wr.heap.size := fun b hb => h.o3.lt hb
  have hlotlt : ∀ v b, v ∈ vs → v.ownBlock = some b → b < wr.heap.size := fun v b hv hb => by
    obtain ⟨i, hi, rfl⟩ := List.mem_iff_getElem.1 hv
    obtain ⟨v, x, z, g1, _, _, g4⟩ := h.lots.at_ i (by rw [← h.lots.lv]; exact hi)
    rw [List.getElem?_eq_getElem hi] at g1
    injection g1 with g1
    rw [g1] at hb
    exact g4.lt hb
  have hgw : w2.heap[g]? = some (.cells #[.int .u8 ((mark j).toNat : Int)] 5 (0, 0)) := by
    rw [← hz]
    exact hu12.at_ hg2 (fun hS => by have := hlt3 g hS; omega)
  refine ⟨hu2.at_ h.room (fun hS => h.o3.apart h.room (by decide) hS), h.ob.kept hu2 (fun b hb hS => h.d3 b hS hb), h.oa.kept hu2 (fun b hb hS => h.oa.parted h.o3 (by decide) b hb hS), h3, h.lots.kept hu2 (fun v x z l b hl hb hS => hl.parted h.o3 (by decide) hb hS), (h.marks.kept hu2 (fun q z hq _ hS => h.o3.apart hq (by decide) hS)).push g hgw (fun v b hv hb e => ?_), h.nb, h.na, fun b hb => ?_, fun b hb hb' => ?_, ?_⟩
  · have := hlotlt v b hv hb; omega
  · by_cases h1 : (Value.slice a3 (m + j) c3).ownBlock = some b
    · exact h.n3 b h1
    · have := hnew b h1 hb; omega
  · by_cases h1 : (Value.slice a3 (m + j) c3).ownBlock = some b
    · exact h.d3 b h1 hb'
    · have h4 := hnew b h1 hb
      have h5 := h.ob.lt hb'
      omega
  · exact h.upd.then hu2 (fun b hb hS => by have := h.n3 b hS; omega)
/-- At p lies a room, made since w0, in which these lists were laid as one list. -/
structure ChunksAt (w0 w : World) (p m : Nat) (af : Option Addr) (cf : Nat) (ab aa av ad : Option Addr) (cb ca cv cd : Nat) (xb xa vs more : List Value) (Ls : List (List UInt8)) : Prop where
  room : RoomAt w p (.slice ab m cb) (.slice aa m ca) (.slice av 1 cv) (.slice ad 1 cd)
  ob : Own w 24 1 (.slice ab m cb) m xb
  oa : Own w 3 1 (.slice aa m ca) m xa
  ov : Own w 44 1 (.slice av 1 cv) 1 [.slice af (m + 40) cf]
  od : Own w 3 1 (.slice ad 1 cd) 1 [.int .i64 (m : Nat)]
  of_ : Own w 24 1 (.slice af (m + 40) cf) (m + 40) (vs ++ more)
  lots : Lots w w0.heap.size m vs xb xa Ls
  marks : MarksIn w vs more 40
  upd : Upd (fun b => b = p) w0 w
theorem ChunksAt.kept {w0 w w' : World} {p m : Nat} {af : Option Addr} {cf : Nat} {ab aa av ad : Option Addr} {cb ca cv cd : Nat} {xb xa vs more : List Value} {Ls : List (List UInt8)} (h : ChunksAt w0 w p m af cf ab aa av ad cb ca cv cd xb xa vs more Ls)
    (hb : Below w.heap.size w w') : ChunksAt w0 w' p m af cf ab aa av ad cb ca cv cd xb xa vs more Ls := by
  have hu : Upd (fun _ => False) w w' := Upd.below hb _
  exact ⟨hu.at_ h.room id, h.ob.kept hu (fun _ _ => id), h.oa.kept hu (fun _ _ => id), h.ov.kept hu (fun _ _ => id), h.od.kept hu (fun _ _ => id), h.of_.kept hu (fun _ _ => id), h.lots.kept hu (fun _ _ _ _ _ _ _ => id), h.marks.kept hu (fun _ _ _ _ => id), h.upd.trans (hu.mono fun _ _ h => h.elim)⟩
theorem ChunksAt.parts {w0 w : World} {p m : Nat} {af : Option Addr} {cf : Nat} {ab aa av ad : Option Addr} {cb ca cv cd : Nat} {xb xa vs more : List Value} {Ls : List (List UInt8)} (h : ChunksAt w0 w p m af cf ab aa av ad cb ca cv cd xb xa vs more Ls)
    (hl : Ls.length = m) : Parts w (.slice af m (m + 40)) Ls := h.lots.parts hl h.of_.sl (by omega) _
/-- A byte of one of the lists. -/
theorem ChunksAt.byte {w0 w : World} {p m : Nat} {af : Option Addr} {cf : Nat} {ab aa av ad : Option Addr} {cb ca cv cd : Nat} {xb xa vs more : List Value} {Ls : List (List UInt8)} (h : ChunksAt w0 w p m af cf ab aa av ad cb ca cv cd xb xa vs more Ls)
    {i k n : Nat} (hi : i < m) (hn : (Ls.getD i []).length = n) (hk : k < n) : ∃ (g off gi offi : Nat) (x : Nat), af = some ⟨g, off, none⟩ ∧ w.cell? ⟨g, off + i, none⟩ = some (.slice (some ⟨gi, offi, none⟩) n (n + 4)) ∧ w.cell? ⟨gi, offi + k, none⟩ = some (.int .u8 (x : Nat)) ∧ x < 256 ∧ w.frozen? ⟨gi, offi + k, none⟩ = false ∧ n ≤ 9223372036854775807 ∧
      ∀ y : UInt8, ChunksAt w0 (w.setCell ⟨gi, offi + k, none⟩ (.int .u8 (y.toNat : Int))) p m af cf ab aa av ad cb ca cv cd xb xa vs more (Ls.set i ((Ls.getD i []).set k y)) := by
  subst hn
  obtain ⟨v, x, z, h1, h2, h3, h4⟩ := h.lots.at_ i hi
  have h4' := h4
  obtain ⟨ai, ci, rfl, rfl, rfl, h5, h6⟩ := h4'
  obtain ⟨g, off, rfl, _, hc⟩ := h.of_.sl.open_ (by rw [h.of_.1]; omega)
  have c0 := hc i _ (by rw [List.getElem?_append_left (by rw [h.lots.lv]; exact hi)]; exact h1)
  obtain ⟨gi, offi, cap, cur, hv, _, _, _, hcell, hfr⟩ := h5.cells (ne_nil_of_length (by rw [h5.1]; omega))
  injection hv with hv1 _ hv3
  subst hv1 hv3
  have c1 := hcell k _ (bytes_getD _ k (by rw [List.length_append]; omega))
  rw [List.getD_eq_getElem?_getD, List.getElem?_append_left hk, ← List.getD_eq_getElem?_getD] at c1
  refine ⟨g, off, gi, offi, _, rfl, c0, c1, UInt8.toNat_lt _, hfr _, by have := h5.2.1; omega, fun y => ?_⟩
  have hu : Upd (fun b => b = gi) w (w.setCell ⟨gi, offi + k, none⟩ (.int .u8 (y.toNat : Int))) := (Upd.refl _ _).setCell _ _ (fun _ => rfl)
  have hgi : (Value.slice (some ⟨gi, offi, none⟩) (Ls.getD i []).length ((Ls.getD i []).length + 4)).ownBlock = some gi := rfl
  have off_ : ∀ {e' : TypeId} {v' : Value} {n' : Nat} {xs' : List Value}, Own w e' 1 v' n' xs' → 5 ≠ e' → ∀ b, v'.ownBlock = some b → ¬ b = gi := fun ho hne b hb e => by
    subst e
    exact h4.parted ho hne hgi hb
  refine ⟨hu.at_ h.room (fun e => h4.apart h.room (by decide) hgi e.symm), h.ob.kept hu (off_ h.ob (by decide)), h.oa.kept hu (off_ h.oa (by decide)), h.ov.kept hu (off_ h.ov (by decide)), h.od.kept hu (off_ h.od (by decide)), h.of_.kept hu (off_ h.of_ (by decide)),
    ⟨h.lots.lv, h.lots.lb, h.lots.la, fun j hj => ?_, h.lots.apart⟩, h.marks.kept hu (fun q z _ hq e => hq _ _ (List.mem_of_getElem? h1) hgi e.symm), h.upd.then hu (fun b hb e => ?_)⟩
  · by_cases hij : j = i
    · subst hij
      have e1 : (Ls.set j ((Ls.getD j []).set k y)).getD j [] = (Ls.getD j []).set k y := by
        by_cases hjl : j < Ls.length
        · rw [List.getD_eq_getElem?_getD, List.getElem?_set_self hjl]; rfl
        · exfalso
          rw [List.getD_eq_getElem?_getD, List.getElem?_eq_none (by omega)] at hk
          exact absurd hk (by simp)
      refine ⟨_, _, _, h1, h2, h3, ?_⟩
      rw [e1]
      have h7 := h5.set k (.int .u8 (y.toNat : Int)) (by omega)
      have e2 : (bytes (Ls.getD j [] ++ Go.Proofs.YtefobboakikpbaaDoor.marks 4)).set k (.int .u8 (y.toNat : Int)) = bytes ((Ls.getD j []).set k y ++ Go.Proofs.YtefobboakikpbaaDoor.marks 4) := by
        rw [← List.set_append_left _ _ hk]
        simp [bytes, List.map_set]
      rw [e2] at h7
      exact ⟨_, _, by rw [List.length_set], by rw [List.length_set], by rw [List.length_set], by rw [List.length_set]; exact h7, h6⟩
    · obtain ⟨v2, x2, z2, g1, g2, g3, g4⟩ := h.lots.at_ j hj
      refine ⟨v2, x2, z2, g1, g2, g3, ?_⟩
      rw [show (Ls.set i ((Ls.getD i []).set k y)).getD j [] = Ls.getD j [] by rw [List.getD_eq_getElem?_getD, List.getElem?_set_ne (by omega), ← List.getD_eq_getElem?_getD]]
      exact g4.kept hu (fun b hb e => by subst e; exact h.lots.apart j i _ _ _ hij g1 h1 hb hgi)
  · subst e
    have := h6 _ hgi
    omega
end Go.Proofs.YtefobboakikpbaaDoor
