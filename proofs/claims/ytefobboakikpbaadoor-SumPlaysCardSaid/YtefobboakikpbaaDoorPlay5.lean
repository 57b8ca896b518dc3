/- Any call of a side; the law SumPlays, walked. -/
import Derived.Test.YtefobboakikpbaaDoorPlay4
import Derived.Deep.Slices
namespace Go.Proofs.YtefobboakikpbaaDoor
open Go.RowKit
set_option linter.unusedVariables false
set_option linter.unusedSimpArgs false

/-- A call of the script. -/
structure OpD where
  kind : Int
  which : Int
  a : Option Addr
  n : Nat
  c : Nat
  pc : List UInt8
  b : List UInt8
deriving Inhabited
def OpD.cells (d : OpD) : List Value := .int .i64 d.kind :: .int .i64 d.which :: .slice d.a d.n d.c :: bytes d.pc
def OpD.ok (w : World) (d : OpD) : Prop := d.pc.length = 32 ∧ Sl w 1 (.slice d.a d.n d.c) d.n (bytes d.b) ∧ d.b.length = d.n
theorem OpD.opC {d : OpD} (h : d.pc.length = 32) : OpC d.cells.toArray d.kind d.which d.a d.n d.c d.pc := ⟨rfl, h⟩
theorem OpD.length {d : OpD} (h : d.pc.length = 32) : d.cells.length = 35 := by simp [OpD.cells, bytes_length, h]
theorem OpD.below {w w' : World} {d : OpD} (h : d.ok w) (hb : Below w.heap.size w w') : d.ok w' := ⟨h.1, h.2.1.below hb, h.2.2⟩

/-- A side is kept, but for what was added. -/
def Played (w w' : World) (s : Nat) (F : Nat → Prop) (N : Nat) : Prop :=
  ∃ (F' : Nat → Prop) (lh lp : List UInt8), SideAt w' s lh lp F' ∧ (∀ k, F' k → F k ∨ w.heap.size ≤ k) ∧ Upd F w w' ∧ lh.length ≤ N ∧ lp.length ≤ N
theorem plays_any (w : World) (s : Nat) (lh lp : List UInt8) (F : Nat → Prop) (h : SideAt w s lh lp F) (d : OpD) (hd : d.ok w) (C : Array Value) (hC : C.toList = d.cells) (hk : KeysAt w) (hn : d.n ≤ 32768)
    (hbF : ∀ k, (Value.slice d.a d.n d.c).ownBlock = some k → bytes d.b ≠ [] → ¬ F k) (N : Nat) (hl : lh.length ≤ N) (hp : lp.length ≤ N) (hN : N ≤ 35184372088832) (hFw : ¬ F 2) :
    Calls Tryd.prog 19 #[.pointer (some ⟨s, 0, none⟩), .agg C] w fun e w' => e = .returned (.bool true) ∧ Played w w' s F (N + 32768) := by
  have hop : OpC C d.kind d.which d.a d.n d.c d.pc := ⟨hC, hd.1⟩
  have same : ∀ w', Below w.heap.size w w' → Played w w' s F (N + 32768) := fun w' hb => ⟨F, lh, lp, h.below hb, fun _ h => .inl h, Upd.below hb _, by omega, by omega⟩
  by_cases h1 : d.kind = 1
  · refine (plays1 w s lh lp F h d.which d.a d.c d.n d.pc C (by rw [← h1]; exact hop) hk d.b hd.2.1 hd.2.2 hn hbF (by omega) hFw).mono ?_
    rintro e w' ⟨rfl, F', h2, h3, h4⟩
    exact ⟨rfl, F', _, _, h2, h3, h4, by rw [List.length_append, hd.2.2]; omega, by omega⟩
  by_cases h2 : d.kind = 2
  · exact (plays2 w s lh lp F h d.which d.a d.c d.n d.pc C (by rw [← h2]; exact hop) hk (by omega)).mono fun e w' ⟨h3, h4⟩ => ⟨h3, same w' h4⟩
  by_cases h3 : d.kind = 3
  · exact (plays3 w s lh lp F h d.which d.a d.c d.n d.pc C (by rw [← h3]; exact hop) hk (by omega)).mono fun e w' ⟨h3, h4⟩ => ⟨h3, same w' h4⟩
  by_cases h4 : d.kind = 4
  · refine (plays4 w s lh lp F h d.which d.a d.c d.n d.pc C (by rw [← h4]; exact hop) hk (by omega) hFw).mono ?_
    rintro e w' ⟨rfl, F', h2, h3, h4⟩
    exact ⟨rfl, F', _, _, h2, h3, h4, by omega, by rw [List.length_append, hd.1]; omega⟩
  by_cases h5 : d.kind = 5
  · exact (plays5 w s lh lp F h d.which d.a d.c d.n d.pc C (by rw [← h5]; exact hop) hk (by omega)).mono fun e w' ⟨h3, h4⟩ => ⟨h3, same w' h4⟩
  exact (plays0 w s lh lp F h d.kind d.which d.a d.c d.n d.pc C hop hk h1 h2 h3 h4 h5).mono fun e w' ⟨h3, h4⟩ => ⟨h3, same w' h4⟩
/-- A side that was just made. -/
theorem side_new {w : World} {s ph q pp : Nat} (hrow : w.heap[s]? = some (.cells #[.pointer (some ⟨ph, 0, none⟩), .pointer (some ⟨q, 0, none⟩), .slice none 0 0, .slice none 0 0] 40 (0, 0)))
    (hh : HashAt w ph none []) (hp : PiecesAt w q pp none []) (hne : ph ≠ pp) : SideAt w s [] [] (fun k => k = s ∨ k = ph ∨ k = q ∨ k = pp) := by
  refine ⟨ph, q, pp, 0, 0, none, none, none, none, hrow, hh, hp, Own.nil _ _ _, Own.nil _ _ _, hne, by simp, by simp [Value.ownBlock], by simp [Value.ownBlock], by simp, by simp, by simp [Value.ownBlock], ?_⟩
  rintro k (h | h | h | h)
  · rw [h]; exact lt_heap hrow
  · rw [h]; exact hh.lt.1
  · rw [h]; exact lt_heap hp.1
  · rw [h]; exact hp.2.1.lt.1
theorem SideAt.cells {w : World} {s : Nat} {lh lp : List UInt8} {F : Nat → Prop} (h : SideAt w s lh lp F) : ∃ ph q : Nat, w.cell? ⟨s, 0, none⟩ = some (.pointer (some ⟨ph, 0, none⟩)) ∧ w.cell? ⟨s, 1, none⟩ = some (.pointer (some ⟨q, 0, none⟩)) := by
  obtain ⟨ph, q, pp, cb, cp, gh, gp, ab, ap, hrow, _⟩ := h
  have h0 := cell_of_row w s 0 _ _ _ hrow
  have h1 := cell_of_row w s 1 _ _ _ hrow
  simp at h0 h1
  exact ⟨ph, q, h0, h1⟩
/-- Two sides, made since w0. -/
def Two (w0 w : World) (s1 s2 N : Nat) : Prop :=
  ∃ (F1 F2 : Nat → Prop) (l1 p1 l2 p2 : List UInt8), SideAt w s1 l1 p1 F1 ∧ SideAt w s2 l2 p2 F2 ∧ (∀ k, F1 k → ¬ F2 k) ∧ (∀ k, F1 k → w0.heap.size ≤ k) ∧ (∀ k, F2 k → w0.heap.size ≤ k) ∧
    (l1.length ≤ N ∧ p1.length ≤ N ∧ l2.length ≤ N ∧ p2.length ≤ N) ∧ Below w0.heap.size w0 w
theorem Two.swap {w0 w : World} {s1 s2 N : Nat} (h : Two w0 w s1 s2 N) : Two w0 w s2 s1 N := by
  obtain ⟨F1, F2, l1, p1, l2, p2, h1, h2, h3, h4, h5, ⟨a, b, c, d⟩, h7⟩ := h
  exact ⟨F2, F1, l2, p2, l1, p1, h2, h1, fun k hk h => h3 k h hk, h5, h4, ⟨c, d, a, b⟩, h7⟩
theorem Two.mono {w0 w : World} {s1 s2 N M : Nat} (h : Two w0 w s1 s2 N) (hN : N ≤ M) : Two w0 w s1 s2 M := by
  obtain ⟨F1, F2, l1, p1, l2, p2, h1, h2, h3, h4, h5, ⟨a, b, c, d⟩, h7⟩ := h
  exact ⟨F1, F2, l1, p1, l2, p2, h1, h2, h3, h4, h5, ⟨by omega, by omega, by omega, by omega⟩, h7⟩
theorem Two.below {w0 w : World} {s1 s2 N : Nat} (h : Two w0 w s1 s2 N) : Below w0.heap.size w0 w := by
  obtain ⟨F1, F2, l1, p1, l2, p2, h1, h2, h3, h4, h5, h6, h7⟩ := h
  exact h7
theorem Two.on {w0 w w' : World} {s1 s2 N : Nat} (h : Two w0 w s1 s2 N) (hb : Below w.heap.size w w') : Two w0 w' s1 s2 N := by
  obtain ⟨F1, F2, l1, p1, l2, p2, h1, h2, h3, h4, h5, h6, h7⟩ := h
  exact ⟨F1, F2, l1, p1, l2, p2, h1.below hb, h2.below hb, h3, h4, h5, h6, h7.trans (hb.mono h7.size)⟩
theorem wpList_load_midg {P : Program} {ops : Array Oper} {rest : List Oper} {op : Oper} {a : Act} {w : World} {Q : Exit → Act → World → Prop} (hw : Region.wanted op (yielded ops a.tmps) = true) (ty : TypeId) (x : Operand) (ho : op.op = .load ty x)
    (b o : Nat) (hx : a.eval x = .pointer (some ⟨b, o, none⟩)) (cs : List Value) (d : TypeDesc) (hc : w.rangeAt b o cs)
    (hu : P.underlying ty = some d) (hd : d.isRow = true) (hi : (P.info? ty).map (·.size) = some cs.length)
    (h : wpList P ops Q rest (a.put op.dst (.agg cs.toArray)) w) : wpList P ops Q (op :: rest) a w :=
  BigFrame.wpList_want hw fun _ hK => wp_load_mid ty x ho b o hx cs d hc hu hd hi (hK _ _ h)
theorem two_plays (w0 w : World) (s1 s2 N : Nat) (h : Two w0 w s1 s2 N) (d : OpD) (hd : d.ok w0) (C : Array Value) (hC : C.toList = d.cells) (hk : KeysAt w0) (hn : d.n ≤ 32768) (hN : N ≤ 35184372088832) (hw : 2 < w0.heap.size) :
    Calls Tryd.prog 19 #[.pointer (some ⟨s1, 0, none⟩), .agg C] w fun e w' => e = .returned (.bool true) ∧ Two w0 w' s1 s2 (N + 32768) := by
  obtain ⟨F1, F2, l1, p1, l2, p2, h1, h2, h3, h4, h5, ⟨a1, a2, a3, a4⟩, h7⟩ := h
  refine (plays_any w s1 l1 p1 F1 h1 d ⟨hd.1, hd.2.1.below h7, hd.2.2⟩ C hC (hk.below h7) hn (fun k hk2 hne hF => ?_) N a1 a2 hN (fun h => by have := h4 _ h; omega)).mono ?_
  · obtain ⟨g, off, he, hg, _⟩ := hd.2.1.open_ (by rcases hb : bytes d.b with _ | _; exact absurd hb hne; simp)
    have h8 := h4 _ hF
    rw [he] at hk2
    simp [Value.ownBlock] at hk2
    omega
  · rintro e w' ⟨rfl, F', lh, lp, g1, g2, g3, g4, g5⟩
    have hsz := h7.size
    refine ⟨rfl, F', F2, lh, lp, l2, p2, g1, h2.kept g3 (fun k hk h => h3 k h hk), fun k hk h => ?_, fun k hk => ?_, h5, ⟨g4, g5, by omega, by omega⟩, h7.upd (Nat.le_refl _) g3 h4⟩
    · rcases g2 k hk with h9 | h9
      · exact h3 k h9 h
      · obtain ⟨_, _, _, _, _, _, _, _, _, _, _, _, _, _, _, _, _, _, _, _, _, hlt⟩ := h2
        have := hlt k h
        omega
    · rcases g2 k hk with h9 | h9
      · exact h4 k h9
      · omega
/-- Two sides, and a block that is none of theirs. -/
def TwoG (w0 w : World) (s1 s2 N G : Nat) : Prop :=
  ∃ (F1 F2 : Nat → Prop) (l1 p1 l2 p2 : List UInt8), SideAt w s1 l1 p1 F1 ∧ SideAt w s2 l2 p2 F2 ∧ (∀ k, F1 k → ¬ F2 k) ∧ (∀ k, F1 k → w0.heap.size ≤ k) ∧ (∀ k, F2 k → w0.heap.size ≤ k) ∧
    (l1.length ≤ N ∧ p1.length ≤ N ∧ l2.length ≤ N ∧ p2.length ≤ N) ∧ Below w0.heap.size w0 w ∧ (∀ k, F1 k → k ≠ G) ∧ (∀ k, F2 k → k ≠ G) ∧ G < w.heap.size
theorem TwoG.swap {w0 w : World} {s1 s2 N G : Nat} (h : TwoG w0 w s1 s2 N G) : TwoG w0 w s2 s1 N G := by
  obtain ⟨F1, F2, l1, p1, l2, p2, h1, h2, h3, h4, h5, ⟨a, b, c, d⟩, h7, h8, h9, h10⟩ := h
  exact ⟨F2, F1, l2, p2, l1, p1, h2, h1, fun k hk h => h3 k h hk, h5, h4, ⟨c, d, a, b⟩, h7, h9, h8, h10⟩
theorem TwoG.mono {w0 w : World} {s1 s2 N M G : Nat} (h : TwoG w0 w s1 s2 N G) (hN : N ≤ M) : TwoG w0 w s1 s2 M G := by
  obtain ⟨F1, F2, l1, p1, l2, p2, h1, h2, h3, h4, h5, ⟨a, b, c, d⟩, h7⟩ := h
  exact ⟨F1, F2, l1, p1, l2, p2, h1, h2, h3, h4, h5, ⟨by omega, by omega, by omega, by omega⟩, h7⟩
theorem TwoG.below {w0 w : World} {s1 s2 N G : Nat} (h : TwoG w0 w s1 s2 N G) : Below w0.heap.size w0 w := by
  obtain ⟨F1, F2, l1, p1, l2, p2, h1, h2, h3, h4, h5, h6, h7, _⟩ := h
  exact h7
theorem Two.toG {w0 w w' : World} {s1 s2 N : Nat} (h : Two w0 w s1 s2 N) (hb : Below w.heap.size w w') (hl : w.heap.size < w'.heap.size) : TwoG w0 w' s1 s2 N w.heap.size := by
  obtain ⟨F1, F2, l1, p1, l2, p2, h1, h2, h3, h4, h5, h6, h7⟩ := h
  refine ⟨F1, F2, l1, p1, l2, p2, h1.below hb, h2.below hb, h3, h4, h5, h6, h7.trans (hb.mono h7.size), fun k hk => ?_, fun k hk => ?_, hl⟩
  · obtain ⟨_, _, _, _, _, _, _, _, _, _, _, _, _, _, _, _, _, _, _, _, _, hlt⟩ := h1
    have := hlt k hk
    omega
  · obtain ⟨_, _, _, _, _, _, _, _, _, _, _, _, _, _, _, _, _, _, _, _, _, hlt⟩ := h2
    have := hlt k hk
    omega
theorem twoG_plays (w0 w : World) (s1 s2 N G : Nat) (h : TwoG w0 w s1 s2 N G) (d : OpD) (hd : d.ok w0) (C : Array Value) (hC : C.toList = d.cells) (hk : KeysAt w0) (hn : d.n ≤ 32768) (hN : N ≤ 35184372088832) (hw : 2 < w0.heap.size) :
    Calls Tryd.prog 19 #[.pointer (some ⟨s1, 0, none⟩), .agg C] w fun e w' => e = .returned (.bool true) ∧ TwoG w0 w' s1 s2 (N + 32768) G ∧ w'.heap[G]? = w.heap[G]? := by
  obtain ⟨F1, F2, l1, p1, l2, p2, h1, h2, h3, h4, h5, ⟨a1, a2, a3, a4⟩, h7, h8, h9, h10⟩ := h
  refine (plays_any w s1 l1 p1 F1 h1 d ⟨hd.1, hd.2.1.below h7, hd.2.2⟩ C hC (hk.below h7) hn (fun k hk2 hne hF => ?_) N a1 a2 hN (fun h => by have := h4 _ h; omega)).mono ?_
  · obtain ⟨g, off, he, hg, _⟩ := hd.2.1.open_ (by rcases hb : bytes d.b with _ | _; exact absurd hb hne; simp)
    have h8 := h4 _ hF
    rw [he] at hk2
    simp [Value.ownBlock] at hk2
    omega
  · rintro e w' ⟨rfl, F', lh, lp, g1, g2, g3, g4, g5⟩
    have hsz := h7.size
    refine ⟨rfl, ⟨F', F2, lh, lp, l2, p2, g1, h2.kept g3 (fun k hk h => h3 k h hk), fun k hk h => ?_, fun k hk => ?_, h5, ⟨g4, g5, by omega, by omega⟩, h7.upd (Nat.le_refl _) g3 h4, fun k hk => ?_, h9, Nat.lt_of_lt_of_le h10 g3.size⟩, g3.block G h10 (fun h => h8 _ h rfl)⟩
    · rcases g2 k hk with h9 | h9
      · exact h3 k h9 h
      · obtain ⟨_, _, _, _, _, _, _, _, _, _, _, _, _, _, _, _, _, _, _, _, _, hlt⟩ := h2
        have := hlt k h
        omega
    · rcases g2 k hk with h9 | h9
      · exact h4 k h9
      · omega
    · rcases g2 k hk with h11 | h11
      · exact h8 k h11
      · omega
/-- A call with its kind alone. -/
def bare (k : Int) : OpD := ⟨k, 0, none, 0, 0, List.replicate 32 0, []⟩
theorem bare_ok (w : World) (k : Int) : (bare k).ok w := ⟨by simp [bare], ⟨none, 0, rfl, rfl, Nat.zero_le _, fun h => absurd rfl h⟩, rfl⟩
end Go.Proofs.YtefobboakikpbaaDoor
