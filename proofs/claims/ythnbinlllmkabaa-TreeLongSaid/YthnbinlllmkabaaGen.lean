/- Words for walks that stand on nothing of the program: what several seats share. -/
import Derived.Test.YthnbinlllmkabaaBase
import Derived.Deep.MidRow
import Derived.Deep.Slices
import Derived.Laws.StructEq
import Derived.Laws.ResultCell
import Derived.Laws.CopyOwn
namespace Go.Proofs.Ythnbinlllmkabaa
open Go.RowKit
set_option linter.unusedVariables false
set_option linter.unusedSimpArgs false

/-- An array laid into a local that was just made: of the world only what is asked later stays. -/
theorem wpList_store_fresh {P : Program} {ops : Array Oper} {rest : List Oper} {o : Oper} {a : Act} {Q : Exit → Act → World → Prop} {w0 : World} {old : Array Value} {t : TypeId} (hgd : o.guard = none) (ty : TypeId) (x y : Operand) (ho : o.op = .store ty x y)
    (cells : Array Value) (hx : a.eval x = .pointer (some ⟨w0.heap.size, 0, none⟩)) (hy : a.eval y = .agg cells) (hi : (P.info? ty).map (·.size) = some cells.size) (hold : old.size = cells.size) (h1 : cells.all (·.oneCell') = true)
    (h : ∀ w2 : World, w2.heap.size = w0.heap.size + 1 → w2.heap[w0.heap.size]? = some (.cells cells t (0, 0)) → Below w0.heap.size w0 w2 → wpList P ops Q rest (a.put o.dst undef) w2) :
    wpList P ops Q (o :: rest) a (w0.alloc (.cells old t)) := by
  have hr := heap_alloc_new w0 (.cells old t)
  refine wpList_store_row hgd ty x y ho w0.heap.size cells hx hy t old hr hi hold h1 (h _ ?_ (setRow_heap _ _ old cells t (0, 0) hr) (below_setRow ((Below.refl _ _).alloc (Nat.le_refl _) _) (Nat.le_refl _) cells))
  simp [World.setRow]
/-- The world behind a step, seen from the world ahead of what was made for it. -/
theorem below_on {wc e wn : World} (h1 : Below wc.heap.size wc e) (h2 : Below e.heap.size e wn) : Below wc.heap.size wc wn := h1.trans (h2.mono h1.size)
theorem on_alloc {wc e : World} (h : Below wc.heap.size wc e) (o : Obj) : Below wc.heap.size wc (e.alloc o) := h.alloc h.size o
theorem on_drew {wc e : World} (h : Below wc.heap.size wc e) : Below wc.heap.size wc e.drew := h.drew
theorem still_load_mid {P : Program} {ops : Array Oper} {rest : List Oper} {op : Oper} {a : Act} {w : World} {Q : Act → Prop} (hgd : op.guard = none) (ty : TypeId) (x : Operand) (ho : op.op = .load ty x)
    (b o : Nat) (hx : a.eval x = .pointer (some ⟨b, o, none⟩)) (cs : List Value) (d : TypeDesc) (hc : w.rangeAt b o cs)
    (hu : P.underlying ty = some d) (hd : d.isRow = true) (hi : (P.info? ty).map (·.size) = some cs.length)
    (h : wpStill P ops w Q rest (a.put op.dst (.agg cs.toArray))) : wpStill P ops w Q (op :: rest) a := by
  unfold wpStill
  rw [if_pos (by simp [Region.wanted, hgd])]
  unfold Oper.still execOp
  simp only [ho, hx, Instr.loadAt, Instr.sureAddr, Sem.run_bind, Sem.run_pure, Result.andThen_ok, run_loadVar_mid w b o ty cs d hc hu hd hi]
  exact ⟨rfl, h⟩
theorem wpList_load_midg {P : Program} {ops : Array Oper} {rest : List Oper} {op : Oper} {a : Act} {w : World} {Q : Exit → Act → World → Prop} (hw : Region.wanted op (yielded ops a.tmps) = true) (ty : TypeId) (x : Operand) (ho : op.op = .load ty x)
    (b o : Nat) (hx : a.eval x = .pointer (some ⟨b, o, none⟩)) (cs : List Value) (d : TypeDesc) (hc : w.rangeAt b o cs)
    (hu : P.underlying ty = some d) (hd : d.isRow = true) (hi : (P.info? ty).map (·.size) = some cs.length)
    (h : wpList P ops Q rest (a.put op.dst (.agg cs.toArray)) w) : wpList P ops Q (op :: rest) a w :=
  BigFrame.wpList_want hw fun _ hK => wp_load_mid ty x ho b o hx cs d hc hu hd hi (hK _ _ h)
theorem blk (a : Option Addr) (n c n' c' : Nat) : (Value.slice a n c).ownBlock = (Value.slice a n' c').ownBlock := by cases a <;> rfl
theorem Sl.made_at (w : World) (g : Nat) (hg : g = w.heap.size) (e : TypeId) (size n c : Nat) (C : Array Value) (xs : List Value) (hx : C.toList = xs) (hs : xs.length = n * size) (hn : n ≤ 9223372036854775807) :
    Sl (w.alloc (.cells C e)) size (.slice (some ⟨g, 0, none⟩) n c) n xs := by
  subst hg
  exact Sl.made w e size n c C (0, 0) xs hx hs hn
theorem Own.apart {w : World} {e T : TypeId} {size n p : Nat} {v : Value} {xs : List Value} {cs : Array Value} {fr : Nat × Nat} (h : Own w e size v n xs) (hp : w.heap[p]? = some (.cells cs T fr)) (hne : e ≠ T) : v.ownBlock ≠ some p := by
  rcases h.2.2 with ⟨rfl, _⟩ | ⟨g, off, cap, cur, rfl, hg, _⟩
  · simp [Value.ownBlock]
  · intro hk
    have : g = p := by simpa [Value.ownBlock] using hk
    subst this
    rw [hg] at hp
    injection hp with hp
    injection hp with _ h2 _
    exact hne h2
theorem Own.parted {w : World} {e e' : TypeId} {size size' n n' : Nat} {v v' : Value} {xs xs' : List Value} (h : Own w e size v n xs) (h' : Own w e' size' v' n' xs') (hne : e ≠ e') : ∀ k, v.ownBlock = some k → v'.ownBlock ≠ some k := by
  intro k hk hk'
  rcases h.2.2 with ⟨rfl, _⟩ | ⟨g, off, cap, cur, rfl, hg, _⟩
  · simp [Value.ownBlock] at hk
  · have : g = k := by simpa [Value.ownBlock] using hk
    subst this
    exact h'.apart hg (fun e => hne e.symm) hk'
theorem Own.cap_le {w : World} {e : TypeId} {size n c : Nat} {a : Option Addr} {xs : List Value} (h : Own w e size (.slice a n c) n xs) : n ≤ c := by
  rcases h.2.2 with ⟨hv, h0⟩ | ⟨_, _, _, _, hv, _, hnc, _⟩
  · injection hv with _ _ hc; omega
  · injection hv with _ _ hc; omega
end Go.Proofs.Ythnbinlllmkabaa
