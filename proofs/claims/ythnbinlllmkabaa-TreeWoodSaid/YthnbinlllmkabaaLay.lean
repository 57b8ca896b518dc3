/- What a room has laid: lists of nodes, and the log of them. -/
import Derived.Test.YthnbinlllmkabaaKid
namespace Go.Proofs.Ythnbinlllmkabaa
open Go.RowKit
set_option linter.unusedVariables false
set_option linter.unusedSimpArgs false

/-- The block of a lie. -/
def ob (a : Option Addr) : Option Nat := a.map (·.block)
theorem own_ob (a : Option Addr) (n c : Nat) : (Value.slice a n c).ownBlock = ob a := by cases a <;> rfl
/-- A block that holds nodes. -/
def NodeBlk (w : World) (b : Nat) : Prop := ∃ cur, w.heap[b]? = some (.cells cur 30 (0, 0))
theorem NodeBlk.lt {w : World} {b : Nat} (h : NodeBlk w b) : b < w.heap.size := by obtain ⟨_, h⟩ := h; exact lt_heap h
theorem NodeBlk.kept {S : Nat → Prop} {w w' : World} {b : Nat} (h : NodeBlk w b) (hu : Upd S w w') (hS : ¬ S b) : NodeBlk w' b := by
  obtain ⟨cur, h⟩ := h
  exact ⟨cur, hu.at_ h hS⟩
theorem NodeBlk.own {w : World} {a : Option Addr} {n c : Nat} {xs : List Value} (h : Own w 30 41 (.slice a n c) n xs) {b : Nat} (hb : ob a = some b) : NodeBlk w b := by
  rcases h.2.2 with ⟨hv, _⟩ | ⟨g, off, cap, cur, hv, hg, _⟩
  · injection hv with h1; subst h1; simp [ob] at hb
  · injection hv with h1; subst h1
    have : g = b := by simpa [ob] using hb
    subst this
    exact ⟨cur, hg⟩
/-- A list of nodes that was laid, with its room behind: untouched. -/
def HeldL (w : World) (X : Nat → Prop) (v z : Value) : Prop :=
  ∃ (g off c n r : Nat), v = .slice (some ⟨g, off, none⟩) (n + r) c ∧ z = .int .i64 (n : Nat) ∧ X g ∧ NodeBlk w g ∧ n ≤ 1000000 ∧ r ≤ 40 ∧ ∀ j, j < r → w.rangeAt g (off + (n + j) * 41) ((plainNd (wordOf j)).row none 0)
theorem HeldL.kept {S X : Nat → Prop} {w w' : World} {v z : Value} (h : HeldL w X v z) (hu : Upd S w w') (hS : ∀ b, X b → NodeBlk w b → ¬ S b) : HeldL w' X v z := by
  obtain ⟨g, off, c, n, r, h1, h2, h3, h4, h5, h6, h7⟩ := h
  exact ⟨g, off, c, n, r, h1, h2, h3, h4.kept hu (hS g h3 h4), h5, h6, fun j hj => rangeAt_kept (h7 j hj) hu (hS g h3 h4)⟩
theorem HeldL.mono {X Y : Nat → Prop} {w : World} {v z : Value} (h : HeldL w X v z) (hX : ∀ b, X b → NodeBlk w b → Y b) : HeldL w Y v z := by
  obtain ⟨g, off, c, n, r, h1, h2, h3, h4, h5, h6, h7⟩ := h
  exact ⟨g, off, c, n, r, h1, h2, hX g h3 h4, h4, h5, h6, h7⟩
def Held (w : World) (X : Nat → Prop) (nb na : List Value) : Prop := nb.length = na.length ∧ ∀ (i : Nat) (v z : Value), nb[i]? = some v → na[i]? = some z → HeldL w X v z
theorem Held.kept {S X : Nat → Prop} {w w' : World} {nb na : List Value} (h : Held w X nb na) (hu : Upd S w w') (hS : ∀ b, X b → NodeBlk w b → ¬ S b) : Held w' X nb na := ⟨h.1, fun i v z h1 h2 => (h.2 i v z h1 h2).kept hu hS⟩
theorem Held.mono {X Y : Nat → Prop} {w : World} {nb na : List Value} (h : Held w X nb na) (hX : ∀ b, X b → NodeBlk w b → Y b) : Held w Y nb na := ⟨h.1, fun i v z h1 h2 => (h.2 i v z h1 h2).mono hX⟩
theorem Held.append {X : Nat → Prop} {w : World} {nb na nb' na' : List Value} (h : Held w X nb na) (h' : Held w X nb' na') : Held w X (nb ++ nb') (na ++ na') := by
  refine ⟨by simp [h.1, h'.1], fun i v z h1 h2 => ?_⟩
  by_cases hi : i < nb.length
  · rw [List.getElem?_append_left hi] at h1
    rw [List.getElem?_append_left (by rw [← h.1]; exact hi)] at h2
    exact h.2 i v z h1 h2
  · rw [List.getElem?_append_right (by omega)] at h1
    rw [List.getElem?_append_right (by rw [← h.1]; omega), ← h.1] at h2
    exact h'.2 _ v z h1 h2
theorem Held.nil (X : Nat → Prop) (w : World) : Held w X [] [] := ⟨rfl, fun i v z h => by simp at h⟩
theorem Held.one {X : Nat → Prop} {w : World} {v z : Value} (h : HeldL w X v z) : Held w X [v] [z] := by
  refine ⟨rfl, fun i v' z' h1 h2 => ?_⟩
  cases i with
  | zero => simp at h1 h2; subst h1; subst h2; exact h
  | succ i => simp at h1
/-- The room's blocks. -/
def LogS (p : Nat) (ab aa : Option Addr) (b : Nat) : Prop := b = p ∨ ob ab = some b ∨ ob aa = some b
/-- The room and its log of lists of nodes. -/
structure LogN (w : World) (lo p : Nat) (ab aa : Option Addr) (cb ca k : Nat) (xb xa : List Value) : Prop where
  room : RoomN w p (.slice ab k cb) (.slice aa k ca)
  b : Own w 28 1 (.slice ab k cb) k xb
  a : Own w 3 1 (.slice aa k ca) k xa
  lo : ∀ g, LogS p ab aa g → lo ≤ g
theorem LogN.lt {w : World} {lo p : Nat} {ab aa : Option Addr} {cb ca k : Nat} {xb xa : List Value} (h : LogN w lo p ab aa cb ca k xb xa) {b : Nat} (hb : LogS p ab aa b) : b < w.heap.size := by
  rcases hb with rfl | hb | hb
  · exact lt_heap h.room
  · exact h.b.lt (by rw [own_ob]; exact hb)
  · exact h.a.lt (by rw [own_ob]; exact hb)
theorem Own.typed {w : World} {e : TypeId} {size n c : Nat} {a : Option Addr} {xs : List Value} (h : Own w e size (.slice a n c) n xs) {b : Nat} (hb : ob a = some b) : ∃ cur, w.heap[b]? = some (.cells cur e (0, 0)) := by
  rcases h.2.2 with ⟨hv, _⟩ | ⟨g, off, cap, cur, hv, hg, _⟩
  · injection hv with h1; subst h1; simp [ob] at hb
  · injection hv with h1; subst h1
    have : g = b := by simpa [ob] using hb
    subst this
    exact ⟨cur, hg⟩
theorem LogN.notnode {w : World} {lo p : Nat} {ab aa : Option Addr} {cb ca k : Nat} {xb xa : List Value} (h : LogN w lo p ab aa cb ca k xb xa) {b : Nat} (hb : LogS p ab aa b) : ¬ NodeBlk w b := by
  rintro ⟨cur, hc⟩
  rcases hb with rfl | hb | hb
  · have := h.room; rw [RoomN, hc] at this; injection this with this; injection this with _ h2 _; exact absurd h2 (by decide)
  · obtain ⟨cur', hc'⟩ := h.b.typed hb; rw [hc] at hc'; injection hc' with hc'; injection hc' with _ h2 _; exact absurd h2 (by decide)
  · obtain ⟨cur', hc'⟩ := h.a.typed hb; rw [hc] at hc'; injection hc' with hc'; injection hc' with _ h2 _; exact absurd h2 (by decide)
theorem LogN.kept {S : Nat → Prop} {w w' : World} {lo p : Nat} {ab aa : Option Addr} {cb ca k : Nat} {xb xa : List Value} (h : LogN w lo p ab aa cb ca k xb xa) (hu : Upd S w w') (hS : ∀ b, LogS p ab aa b → ¬ S b) : LogN w' lo p ab aa cb ca k xb xa :=
  ⟨hu.at_ h.room (hS p (.inl rfl)), h.b.kept hu (fun k hk => hS k (.inr (.inl (by rw [← own_ob]; exact hk)))), h.a.kept hu (fun k hk => hS k (.inr (.inr (by rw [← own_ob]; exact hk)))), h.lo⟩
/-- These children were laid, with their room; what is made lies behind B. -/
def Laid (w : World) (B : Nat) (w' : World) (lo p : Nat) (ab aa : Option Addr) (xb xa : List Value) (d : Nat) (ks : List Nd) (af : Option Addr) : Prop :=
  ∃ (ab' aa' : Option Addr) (cb' ca' k' : Nat) (nb na : List Value), LogN w' lo p ab' aa' cb' ca' k' (xb ++ nb) (xa ++ na) ∧ Held w' (fun b => B ≤ b) nb na ∧ nb.length ≤ 1 + partsAll ks ∧ (∀ b, LogS p ab' aa' b → LogS p ab aa b ∨ B ≤ b) ∧
    KidsSep w' d (fun b => B ≤ b ∧ NodeBlk w' b) af ks ∧ Upd (LogS p ab aa) w w'
theorem Laid.kept {T : Nat → Prop} {w w3 w4 : World} {B lo p : Nat} {ab aa : Option Addr} {xb xa : List Value} {d : Nat} {ks : List Nd} {af : Option Addr} (h : Laid w B w3 lo p ab aa xb xa d ks af) (hu : Upd T w3 w4) (hT : ∀ b, T b → w.heap.size ≤ b ∧ b < B) (hlt : ∀ b, LogS p ab aa b → b < w.heap.size) : Laid w B w4 lo p ab aa xb xa d ks af := by
  obtain ⟨ab', aa', cb', ca', k', nb, na, h1, h2, h3, h4, h5, h6⟩ := h
  refine ⟨ab', aa', cb', ca', k', nb, na, h1.kept hu (fun b hb ht => ?_), h2.kept hu (fun b hb _ ht => ?_), h3, h4, ?_, h6.then hu (fun i hi ht => ?_)⟩
  · have := hT b ht
    rcases h4 b hb with h | h
    · have := hlt b h; omega
    · omega
  · have := hT b ht; omega
  · refine KidsSep.mono d _ _ af ks (fun b hb => ?_) (KidsSep.kept hu d _ af ks (fun b hb ht => ?_) h5)
    · exact ⟨hb.1, hb.2.kept hu (fun ht => by have := hT b ht; omega)⟩
    · have := hT b ht; omega
  · have := hT i ht; omega
theorem Laid.from {w w2 w3 : World} {lo p : Nat} {ab aa : Option Addr} {xb xa : List Value} {d : Nat} {ks : List Nd} {af : Option Addr} (h : Laid w2 w2.heap.size w3 lo p ab aa xb xa d ks af) (hb : Below w.heap.size w w2) : Laid w w2.heap.size w3 lo p ab aa xb xa d ks af := by
  obtain ⟨ab', aa', cb', ca', k', nb, na, h1, h2, h3, h4, h5, h6⟩ := h
  exact ⟨ab', aa', cb', ca', k', nb, na, h1, h2, h3, h4, h5, (Upd.below hb _).then h6 (fun i _ h => h)⟩
/-- Being laid. -/
structure Lay (w wr : World) (lo p : Nat) (ab0 aa0 v ab aa : Option Addr) (cb ca k : Nat) (xb xa nb na : List Value) (d : Nat) (ks : List Nd) (al : List (Option Addr × Nat)) (Fs : Nat → Nat → Prop) : Prop where
  log : LogN wr lo p ab aa cb ca k (xb ++ nb) (xa ++ na)
  held : Held wr (fun b => w.heap.size ≤ b ∧ ob v ≠ some b) nb na
  nl : ks.length = al.length
  sep : ∀ j x a' c', ks[j]? = some x → al[j]? = some (a', c') → x.v.wf ∧ mwf x.m ∧ x.name.size ≤ 9223372036854775807 ∧ x.kids.length ≤ 9223372036854775807 ∧ KidsSep wr d (Fs j) a' x.kids
  fs : ∀ j b, Fs j b → w.heap.size ≤ b ∧ NodeBlk wr b ∧ ob v ≠ some b
  ap : ∀ i j b, i ≠ j → Fs i b → ¬ Fs j b
  n3 : ∀ b, ob v = some b → w.heap.size ≤ b ∧ NodeBlk wr b
  new : ∀ b, LogS p ab aa b → LogS p ab0 aa0 b ∨ w.heap.size ≤ b
  upd : Upd (LogS p ab0 aa0) w wr
section
variable {w wr : World} {lo p : Nat} {ab0 aa0 v ab aa : Option Addr} {cb ca k : Nat} {xb xa nb na : List Value} {d : Nat} {ks : List Nd} {al : List (Option Addr × Nat)} {Fs : Nat → Nat → Prop}
theorem Lay.grow (h : Lay w wr lo p ab0 aa0 v ab aa cb ca k xb xa nb na d ks al Fs) {w6 : World} {v' : Option Addr} {o : Obj} (hg : (wr.alloc o).grownBy w6 (ob v)) (hn : ∀ b, ob v ≠ some b → ob v' = some b → wr.heap.size + 1 ≤ b) (hv : ∀ b, ob v' = some b → NodeBlk w6 b) :
    Lay w w6 lo p ab0 aa0 v' ab aa cb ca k xb xa nb na d ks al Fs := by
  have u : Upd (fun b => ob v = some b) wr w6 := Upd.grown ((Upd.refl _ wr).alloc o) hg (fun b hb _ => hb)
  have hv' : ∀ b, NodeBlk wr b → ob v ≠ some b → ob v' ≠ some b := fun b h1 h2 h3 => by have := hn b h2 h3; have := h1.lt; omega
  have hws := h.upd.size
  refine ⟨h.log.kept u (fun b hb hS => h.log.notnode hb (h.n3 b hS).2), ?_, h.nl, fun j x a' c' hj ha => ?_, fun j b hb => ?_, h.ap, fun b hb => ⟨?_, hv b hb⟩, h.new, h.upd.then u (fun i hi hS => ?_)⟩
  · refine Held.kept (h.held.mono (Y := fun b => (w.heap.size ≤ b ∧ ob v' ≠ some b) ∧ ob v ≠ some b) (fun b hb hk => ⟨⟨hb.1, hv' b hk hb.2⟩, hb.2⟩)) u (fun b hb _ hS => hb.2 hS) |>.mono (fun b hb _ => hb.1)
  · obtain ⟨k1, k2, k3, k4, k5⟩ := h.sep j x a' c' hj ha
    exact ⟨k1, k2, k3, k4, KidsSep.kept u d (Fs j) a' x.kids (fun b hb hS => (h.fs j b hb).2.2 hS) k5⟩
  · obtain ⟨k1, k2, k3⟩ := h.fs j b hb
    exact ⟨k1, k2.kept u k3, hv' b k2 k3⟩
  · by_cases hb2 : ob v = some b
    · exact (h.n3 b hb2).1
    · have := hn b hb2 hb; omega
  · have := (h.n3 i hS).1; omega
theorem Lay.kid (h : Lay w wr lo p ab0 aa0 v ab aa cb ca k xb xa nb na d ks al Fs) {w5 : World} {B : Nat} (hB : wr.heap.size ≤ B) {x : Nd} (hxv : x.v.wf) (hxm : mwf x.m) (hxn : x.name.size ≤ 9223372036854775807) (hxk : x.kids.length ≤ 9223372036854775807) {a' : Option Addr} (c' : Nat)
    (hl : Laid wr B w5 lo p ab aa (xb ++ nb) (xa ++ na) d x.kids a') :
    ∃ (ab' aa' : Option Addr) (cb' ca' k' : Nat) (nb' na' : List Value) (Fs' : Nat → Nat → Prop), nb'.length ≤ nb.length + (1 + partsAll x.kids) ∧ Lay w w5 lo p ab0 aa0 v ab' aa' cb' ca' k' xb xa nb' na' d (ks ++ [x]) (al ++ [(a', c')]) Fs' := by
  obtain ⟨ab', aa', cb', ca', k', nb', na', h1, h2, h3, h4, h5, h6⟩ := hl
  have hws := h.upd.size
  have hvl : ∀ b, ob v = some b → b < wr.heap.size := fun b hb => (h.n3 b hb).2.lt
  have hnl : ∀ b, NodeBlk wr b → ¬ LogS p ab aa b := fun b hb hS => h.log.notnode hS hb
  refine ⟨ab', aa', cb', ca', k', nb ++ nb', na ++ na', fun j => if j = ks.length then fun b => B ≤ b ∧ NodeBlk w5 b else Fs j, by simp; omega, ⟨by rw [← List.append_assoc, ← List.append_assoc]; exact h1, ?_, by simp [h.nl], fun j y a2 c2 hj ha => ?_, fun j b hb => ?_, fun i j b hij hi hj => ?_, fun b hb => ?_, fun b hb => ?_, h.upd.then h6 (fun i hi hS => ?_)⟩⟩
  · refine Held.append (h.held.kept h6 (fun b hb hk hS => hnl b hk hS)) (h2.mono (fun b hb _ => ⟨by omega, fun e => ?_⟩))
    have := hvl b e; omega
  · by_cases hj2 : j < ks.length
    · rw [List.getElem?_append_left hj2] at hj
      rw [List.getElem?_append_left (by rw [← h.nl]; exact hj2)] at ha
      obtain ⟨k1, k2, k3, k4, k5⟩ := h.sep j y a2 c2 hj ha
      rw [if_neg (by omega)]
      exact ⟨k1, k2, k3, k4, KidsSep.kept h6 d (Fs j) a2 y.kids (fun b hb hS => hnl b (h.fs j b hb).2.1 hS) k5⟩
    · have hl := (List.getElem?_eq_some_iff.1 hj).1
      simp at hl
      obtain rfl : j = ks.length := by omega
      rw [List.getElem?_append_right (Nat.le_refl _), Nat.sub_self] at hj
      rw [List.getElem?_append_right (by rw [h.nl]; exact Nat.le_refl _), h.nl, Nat.sub_self] at ha
      simp at hj ha
      obtain ⟨rfl, rfl⟩ := ha
      subst hj
      rw [if_pos rfl]
      exact ⟨hxv, hxm, hxn, hxk, h5⟩
  · by_cases hj : j = ks.length
    · rw [if_pos hj] at hb
      exact ⟨by omega, hb.2, fun e => by have := hvl b e; omega⟩
    · rw [if_neg hj] at hb
      obtain ⟨k1, k2, k3⟩ := h.fs j b hb
      exact ⟨k1, k2.kept h6 (hnl b k2), k3⟩
  · by_cases h1 : i = ks.length
    · rw [if_pos h1] at hi
      rw [if_neg (by omega)] at hj
      have := (h.fs j b hj).2.1.lt
      omega
    · rw [if_neg h1] at hi
      by_cases h2 : j = ks.length
      · rw [if_pos h2] at hj
        have := (h.fs i b hi).2.1.lt
        omega
      · rw [if_neg h2] at hj
        exact h.ap i j b hij hi hj
  · obtain ⟨k1, k2⟩ := h.n3 b hb
    exact ⟨k1, k2.kept h6 (hnl b k2)⟩
  · rcases h4 b hb with h' | h'
    · exact h.new b h'
    · exact .inr (by omega)
  · rcases h.new i hS with h' | h'
    · exact h'
    · omega
end
/-- What a finished laying comes to. -/
theorem rows_spare (ks : List Nd) (al : List (Option Addr × Nat)) (j : Nat) (hl : ks.length = al.length) (hw : ∀ k ∈ ks, k.v.wf) (room i : Nat) (hi : i < room) (q : Nat) (hq : q < 41) :
    (rowsOf (ks ++ spares room) (al ++ List.replicate room (none, 0)))[(ks.length + i) * 41 + q]? = ((plainNd (wordOf i)).row none 0)[q]? := by
  refine rowsOf_at _ _ (ks.length + i) _ none 0 q (fun k hk => ?_) (by simp [hl, spares_length]) ?_ ?_ hq
  · rcases List.mem_append.1 hk with h | h
    · exact hw k h
    · simp only [spares, List.mem_map, List.mem_range] at h
      obtain ⟨i, _, rfl⟩ := h
      exact plainNd_wf _
  · rw [List.getElem?_append_right (by omega), Nat.add_sub_cancel_left]
    simp [spares, hi]
  · rw [List.getElem?_append_right (by omega), hl, Nat.add_sub_cancel_left]
    simp [hi]
theorem Lay.wfs {w wr : World} {lo p : Nat} {ab0 aa0 v ab aa : Option Addr} {cb ca k : Nat} {xb xa nb na : List Value} {d : Nat} {ks : List Nd} {al : List (Option Addr × Nat)} {Fs : Nat → Nat → Prop} (h : Lay w wr lo p ab0 aa0 v ab aa cb ca k xb xa nb na d ks al Fs) : ∀ x ∈ ks, x.v.wf := by
  intro x hx
  obtain ⟨i, hi, rfl⟩ := List.mem_iff_getElem.1 hx
  have hil : i < al.length := by rw [← h.nl]; exact hi
  exact (h.sep i _ al[i].1 al[i].2 (List.getElem?_eq_getElem hi) (List.getElem?_eq_getElem hil)).1
theorem Lay.done {w wr : World} {lo p : Nat} {ab0 aa0 v ab aa : Option Addr} {cb ca k : Nat} {xb xa nb na : List Value} {d : Nat} {ks : List Nd} {al : List (Option Addr × Nat)} {Fs : Nat → Nat → Prop} (h : Lay w wr lo p ab0 aa0 v ab aa cb ca k xb xa nb na (d - 1) ks al Fs) (hd : d = 0 → ks = [])
    {m room cv : Nat} (hm : ks.length = m) (hr : 0 < room) (hr2 : room ≤ 40) (hm2 : m ≤ 1000000) (hown : Own wr 30 41 (.slice v (m + room) cv) (m + room) (rowsOf (ks ++ spares room) (al ++ List.replicate room (none, 0))))
    {w' : World} {ab' aa' : Option Addr} {cb' ca' : Nat} (hu : Upd (LogS p ab aa) wr w') (hlog : LogN w' lo p ab' aa' cb' ca' (k + 1) ((xb ++ nb) ++ [.slice v (m + room) cv]) ((xa ++ na) ++ [.int .i64 (m : Nat)])) (hnew : ∀ b, LogS p ab' aa' b → LogS p ab aa b ∨ w.heap.size ≤ b) (hnb : nb.length ≤ partsAll ks) :
    Laid w w.heap.size w' lo p ab0 aa0 xb xa d ks v := by
  have hnl : ∀ b, NodeBlk wr b → ¬ LogS p ab aa b := fun b hb hS => h.log.notnode hS hb
  have hws := h.upd.size
  have hblk : ∀ b, ob v = some b → NodeBlk wr b := fun b hb => NodeBlk.own hown hb
  have hown' : Own w' 30 41 (.slice v (m + room) cv) (m + room) (rowsOf (ks ++ spares room) (al ++ List.replicate room (none, 0))) := hown.kept hu (fun b hb => hnl b (hblk b (by rw [← own_ob v (m + room) cv]; exact hb)))
  have hwf := h.wfs
  have hwf2 : ∀ x ∈ ks ++ spares room, x.v.wf := fun x hx => by
    rcases List.mem_append.1 hx with h | h
    · exact hwf x h
    · simp only [spares, List.mem_map, List.mem_range] at h
      obtain ⟨i, _, rfl⟩ := h
      exact plainNd_wf _
  have hlen : (rowsOf (ks ++ spares room) (al ++ List.replicate room (none, 0))).length = (m + room) * 41 := by
    rw [rowsOf_length _ _ (by simp [h.nl, spares_length]) hwf2]; simp [hm, spares_length]
  obtain ⟨g, off, rfl, hg, hc⟩ := hown'.sl.open_ (by rw [hlen]; omega)
  have hrg : w'.rangeAt g off (rowsOf (ks ++ spares room) (al ++ List.replicate room (none, 0))) := fun j u hj => hc j u hj
  have hgb : NodeBlk w' g := NodeBlk.own hown' rfl
  have hg0 : w.heap.size ≤ g := (h.n3 g rfl).1
  have hheld := (h.held.kept hu (fun b _ hb => hnl b hb)).mono (Y := fun b => w.heap.size ≤ b) (fun b hb _ => hb.1)
  refine ⟨ab', aa', cb', ca', k + 1, nb ++ [.slice (some ⟨g, off, none⟩) (m + room) cv], na ++ [.int .i64 (m : Nat)], by rw [← List.append_assoc, ← List.append_assoc]; exact hlog, Held.append hheld (Held.one ?_), by simp; omega, fun b hb => ?_, ?_, h.upd.then hu (fun i hi hS => ?_)⟩
  · refine ⟨g, off, cv, m, room, rfl, rfl, hg0, hgb, hm2, hr2, fun j hj q u hq => ?_⟩
    have hq41 : q < 41 := by have := (List.getElem?_eq_some_iff.1 hq).1; rwa [row_len (plainNd_wf _)] at this
    have := hrg ((m + j) * 41 + q) u (by rw [← hm, rows_spare ks al 0 h.nl hwf room j hj q hq41]; exact hq)
    rw [Nat.add_assoc]
    exact this
  · rcases hnew b hb with h1 | h1
    · exact h.new b h1
    · exact .inr h1
  · cases d with
    | zero => exact hd rfl
    | succ d =>
      refine KidsSep.ofRows (more := spares room) (am := List.replicate room (none, 0)) (al := al) Fs ⟨hg0, hgb⟩ h.nl (by simp [spares_length]) hrg hgb hwf2 (fun j x a' c' hj ha => ?_) (fun j b hb => ?_) h.ap
      · obtain ⟨k1, k2, k3, k4, k5⟩ := h.sep j x a' c' hj ha
        exact ⟨k2, k3, k4, KidsSep.kept hu d (Fs j) a' x.kids (fun b hb => hnl b (h.fs j b hb).2.1) k5⟩
      · obtain ⟨k1, k2, k3⟩ := h.fs j b hb
        exact ⟨⟨k1, k2.kept hu (hnl b k2)⟩, fun e => k3 (by rw [e]; rfl)⟩
  · rcases h.new i hS with h1 | h1
    · exact h1
    · omega
end Go.Proofs.Ythnbinlllmkabaa
