/- Trees as data: values, marks, nodes; how a node lies in memory. -/
import Derived.Test.YthnbinlllmkabaaGen
import Derived.Test.YthnbinlllmkabaaProg
namespace Go.Proofs.Ythnbinlllmkabaa
open Go.RowKit
set_option linter.unusedVariables false
set_option linter.unusedSimpArgs false

/-- What stands at a path. -/
structure Vl where
  kind : Int
  mode : Int
  size : Int
  sum : List UInt8
deriving DecidableEq, Inhabited
/-- A mark. -/
structure Mk where
  number : Int
  stamp : Int
deriving DecidableEq, Inhabited
/-- A node. -/
inductive Nd where
  | mk (name : ByteArray) (v : Vl) (m : Mk × Mk) (kids : List Nd)
instance : Inhabited Nd := ⟨.mk ⟨#[]⟩ default default []⟩
def Nd.name : Nd → ByteArray | .mk n _ _ _ => n
def Nd.v : Nd → Vl | .mk _ v _ _ => v
def Nd.m : Nd → Mk × Mk | .mk _ _ m _ => m
def Nd.kids : Nd → List Nd | .mk _ _ _ k => k
def Nd.named (n : Nd) (s : ByteArray) : Nd := .mk s n.v n.m n.kids

def i64 (z : Int) : Prop := -9223372036854775808 ≤ z ∧ z ≤ 9223372036854775807
def Vl.wf (v : Vl) : Prop := v.sum.length = 32 ∧ i64 v.kind ∧ i64 v.mode ∧ i64 v.size
def mwf (m : Mk × Mk) : Prop := i64 m.1.number ∧ i64 m.1.stamp ∧ i64 m.2.number ∧ i64 m.2.stamp
def Vl.cells (v : Vl) : List Value := .int .i64 v.kind :: .int .i64 v.mode :: .int .i64 v.size :: bytes v.sum
def mcells (m : Mk × Mk) : List Value := [.int .i64 m.1.number, .int .i64 m.1.stamp, .int .i64 m.2.number, .int .i64 m.2.stamp]
/-- The cells of a node whose list of children is k. -/
def nrow (s : ByteArray) (v : Vl) (m : Mk × Mk) (k : Value) : List Value := .string s :: (v.cells ++ (mcells m ++ [k]))
theorem Vl.cells_length {v : Vl} (h : v.wf) : v.cells.length = 35 := by simp [Vl.cells, bytes_length, h.1]
theorem mcells_length (m : Mk × Mk) : (mcells m).length = 4 := rfl
theorem nrow_length {s : ByteArray} {v : Vl} {m : Mk × Mk} {k : Value} (h : v.wf) : (nrow s v m k).length = 41 := by
  simp only [nrow, List.length_cons, List.length_append, v.cells_length h, mcells_length, List.length_nil]
theorem Vl.cells_one (v : Vl) : ∀ u ∈ v.cells, u.oneCell' = true := by
  intro u hu
  simp only [Vl.cells, List.mem_cons] at hu
  rcases hu with rfl | rfl | rfl | hu
  · rfl
  · rfl
  · rfl
  · exact bytes_one _ u hu
theorem mcells_one (m : Mk × Mk) : ∀ u ∈ mcells m, u.oneCell' = true := by
  intro u hu
  simp only [mcells, List.mem_cons, List.not_mem_nil, or_false] at hu
  rcases hu with rfl | rfl | rfl | rfl <;> rfl
theorem nrow_one (s : ByteArray) (v : Vl) (m : Mk × Mk) (a : Option Addr) (n c : Nat) : ∀ u ∈ nrow s v m (.slice a n c), u.oneCell' = true := by
  intro u hu
  simp only [nrow, List.mem_cons, List.mem_append, List.not_mem_nil, or_false] at hu
  rcases hu with rfl | hu | hu | rfl
  · rfl
  · exact v.cells_one u hu
  · exact mcells_one m u hu
  · rfl
theorem all_one {l : List Value} (h : ∀ u ∈ l, u.oneCell' = true) : l.toArray.all (·.oneCell') = true := by
  rw [Array.all_eq_true_iff_forall_mem]; intro u hu; exact h u (by simpa using hu)

/-! ### Reading rows -/
theorem rangeAt_sub {w : World} {b o : Nat} {xs ys zs : List Value} (h : w.rangeAt b o (xs ++ (ys ++ zs))) : w.rangeAt b (o + xs.length) ys := fun j v hj => by
  have := h (xs.length + j) v (by rw [List.getElem?_append_right (by omega), Nat.add_sub_cancel_left, List.getElem?_append_left (List.getElem?_eq_some_iff.1 hj).1]; exact hj)
  rw [Nat.add_assoc]; exact this
theorem rangeAt_pre {w : World} {b o : Nat} {xs ys : List Value} (h : w.rangeAt b o (xs ++ ys)) : w.rangeAt b o xs := fun j v hj => h j v (by rw [List.getElem?_append_left (List.getElem?_eq_some_iff.1 hj).1]; exact hj)
theorem rangeAt_row {w : World} {b : Nat} {l : List Value} {t : TypeId} {fr : Nat × Nat} (h : w.heap[b]? = some (.cells l.toArray t fr)) : w.rangeAt b 0 l := fun j v hj => by
  rw [Nat.zero_add, cell_of_row w b j _ _ _ h]; simpa using hj
theorem rangeAt_cell {w : World} {b o : Nat} {l : List Value} (h : w.rangeAt b o l) {j : Nat} {v : Value} (hj : l[j]? = some v) : w.cell? ⟨b, o + j, none⟩ = some v := h j v hj
/-- What a value's cells hold. -/
theorem vl_at {w : World} {b o : Nat} {v : Vl} (h : w.rangeAt b o v.cells) : w.cell? ⟨b, o, none⟩ = some (.int .i64 v.kind) ∧ w.cell? ⟨b, o + 1, none⟩ = some (.int .i64 v.mode) ∧ w.cell? ⟨b, o + 2, none⟩ = some (.int .i64 v.size) ∧ w.rangeAt b (o + 3) (bytes v.sum) :=
  ⟨h 0 _ rfl, h 1 _ rfl, h 2 _ rfl, fun j u hj => by have := h (3 + j) u (by rw [Nat.add_comm]; exact hj); rw [Nat.add_assoc]; exact this⟩
theorem mk_at {w : World} {b o : Nat} {m : Mk × Mk} (h : w.rangeAt b o (mcells m)) : w.cell? ⟨b, o, none⟩ = some (.int .i64 m.1.number) ∧ w.cell? ⟨b, o + 1, none⟩ = some (.int .i64 m.1.stamp) ∧ w.cell? ⟨b, o + 2, none⟩ = some (.int .i64 m.2.number) ∧ w.cell? ⟨b, o + 3, none⟩ = some (.int .i64 m.2.stamp) :=
  ⟨h 0 _ rfl, h 1 _ rfl, h 2 _ rfl, h 3 _ rfl⟩
/-- What a node's cells hold. -/
theorem nrow_at {w : World} {b o : Nat} {s : ByteArray} {v : Vl} {m : Mk × Mk} {k : Value} (hv : v.wf) (h : w.rangeAt b o (nrow s v m k)) :
    w.cell? ⟨b, o, none⟩ = some (.string s) ∧ w.rangeAt b (o + 1) v.cells ∧ w.rangeAt b (o + 36) (mcells m) ∧ w.cell? ⟨b, o + 40, none⟩ = some k := by
  have hl := v.cells_length hv
  refine ⟨h 0 _ rfl, ?_, ?_, ?_⟩
  · have h1 := rangeAt_sub (xs := [.string s]) (ys := v.cells) (zs := mcells m ++ [k]) h
    exact h1
  · have h1 := rangeAt_sub (xs := .string s :: v.cells) (ys := mcells m) (zs := [k]) h
    rw [List.length_cons, hl] at h1
    exact h1
  · refine h 40 k ?_
    show (Value.string s :: (v.cells ++ (mcells m ++ [k])))[39 + 1]? = some k
    rw [List.getElem?_cons_succ, List.getElem?_append_right (by omega), hl]
    rfl

/-! ### Nodes in memory -/
/-- At a lie these nodes, in blocks of F, as deep as d. -/
def KidsIn (w : World) (F : Nat → Prop) : Nat → Option Addr → List Nd → Prop
  | 0, _, ks => ks = []
  | d + 1, a, ks => ∀ i k, ks[i]? = some k → ∃ g off a' c', a = some ⟨g, off, none⟩ ∧ F g ∧ w.rangeAt g (off + i * 41) (nrow k.name k.v k.m (.slice a' k.kids.length c')) ∧ k.v.wf ∧ mwf k.m ∧ k.name.size ≤ 9223372036854775807 ∧ k.kids.length ≤ 9223372036854775807 ∧ KidsIn w F d a' k.kids
theorem rangeAt_kept {S : Nat → Prop} {w w' : World} {g o : Nat} {l : List Value} (h : w.rangeAt g o l) (hu : Upd S w w') (hg : ¬ S g) : w'.rangeAt g o l := fun j v hj => hu.cell (h j v hj) hg
theorem KidsIn.kept {F S : Nat → Prop} {w w' : World} (hu : Upd S w w') (hS : ∀ b, F b → ¬ S b) : ∀ (d : Nat) (a : Option Addr) (ks : List Nd), KidsIn w F d a ks → KidsIn w' F d a ks
  | 0, _, _, h => h
  | d + 1, a, ks, h => fun i k hk => by
    obtain ⟨g, off, a', c', h1, h2, h3, h4, h5, h6, h7, h8⟩ := h i k hk
    exact ⟨g, off, a', c', h1, h2, rangeAt_kept h3 hu (hS g h2), h4, h5, h6, h7, KidsIn.kept hu hS d a' k.kids h8⟩
theorem KidsIn.below {F : Nat → Prop} {w w' : World} (hb : Below w.heap.size w w') {d : Nat} {a : Option Addr} {ks : List Nd} (h : KidsIn w F d a ks) : KidsIn w' F d a ks :=
  KidsIn.kept (Upd.below hb fun _ => False) (fun _ _ => id) d a ks h
theorem KidsIn.mono {F G : Nat → Prop} {w : World} (hG : ∀ b, F b → b < w.heap.size → G b) : ∀ (d : Nat) (a : Option Addr) (ks : List Nd), KidsIn w F d a ks → KidsIn w G d a ks
  | 0, _, _, h => h
  | d + 1, a, ks, h => fun i k hk => by
    obtain ⟨g, off, a', c', h1, h2, h3, h4, h5, h6, h7, h8⟩ := h i k hk
    exact ⟨g, off, a', c', h1, hG g h2 (World.block_lt_of_cell? w _ (h3 0 _ rfl)), h3, h4, h5, h6, h7, KidsIn.mono hG d a' k.kids h8⟩
theorem KidsIn.more {F : Nat → Prop} {w : World} : ∀ (d : Nat) (a : Option Addr) (ks : List Nd), KidsIn w F d a ks → KidsIn w F (d + 1) a ks
  | 0, a, ks, h => fun i k hk => by rw [show ks = [] from h] at hk; simp at hk
  | d + 1, a, ks, h => fun i k hk => by
    obtain ⟨g, off, a', c', h1, h2, h3, h4, h5, h6, h7, h8⟩ := h i k hk
    exact ⟨g, off, a', c', h1, h2, h3, h4, h5, h6, h7, KidsIn.more d a' k.kids h8⟩
theorem KidsIn.deeper {F : Nat → Prop} {w : World} {d e : Nat} {a : Option Addr} {ks : List Nd} (h : KidsIn w F d a ks) (hde : d ≤ e) : KidsIn w F e a ks := by
  induction e with
  | zero => obtain rfl : d = 0 := by omega
            exact h
  | succ e ih =>
    by_cases hd : d = e + 1
    · subst hd; exact h
    · exact KidsIn.more _ _ _ (ih (by omega))
/-- A node whose children lie at a. -/
structure NodeIn (w : World) (F : Nat → Prop) (d : Nat) (n : Nd) (a : Option Addr) : Prop where
  vwf : n.v.wf
  mwf : mwf n.m
  nsz : n.name.size ≤ 9223372036854775807
  ksz : n.kids.length ≤ 9223372036854775807
  kids : KidsIn w F d a n.kids
/-- The cells of a node. -/
def Nd.row (n : Nd) (a : Option Addr) (c : Nat) : List Value := nrow n.name n.v n.m (.slice a n.kids.length c)
theorem KidsIn.at {w : World} {F : Nat → Prop} {d : Nat} {a : Option Addr} {ks : List Nd} (h : KidsIn w F (d + 1) a ks) {i : Nat} (hi : i < ks.length) :
    ∃ (g off : Nat) (a' : Option Addr) (c' : Nat), a = some ⟨g, off, none⟩ ∧ F g ∧ w.rangeAt g (off + i * 41) ((ks[i]).row a' c') ∧ NodeIn w F d (ks[i]) a' := by
  obtain ⟨g, off, a', c', h1, h2, h3, h4, h5, h6, h7, h8⟩ := h i _ (List.getElem?_eq_getElem hi)
  exact ⟨g, off, a', c', h1, h2, h3, h4, h5, h6, h7, h8⟩
theorem NodeIn.kept {F S : Nat → Prop} {w w' : World} {d : Nat} {n : Nd} {a : Option Addr} (h : NodeIn w F d n a) (hu : Upd S w w') (hS : ∀ b, F b → ¬ S b) : NodeIn w' F d n a :=
  ⟨h.vwf, h.mwf, h.nsz, h.ksz, KidsIn.kept hu hS d a _ h.kids⟩
theorem NodeIn.below {F : Nat → Prop} {w w' : World} {d : Nat} {n : Nd} {a : Option Addr} (h : NodeIn w F d n a) (hb : Below w.heap.size w w') : NodeIn w' F d n a :=
  h.kept (Upd.below hb fun _ => False) (fun _ _ => id)
theorem NodeIn.mono {F G : Nat → Prop} {w : World} {d : Nat} {n : Nd} {a : Option Addr} (h : NodeIn w F d n a) (hG : ∀ b, F b → b < w.heap.size → G b) : NodeIn w G d n a :=
  ⟨h.vwf, h.mwf, h.nsz, h.ksz, KidsIn.mono hG d a _ h.kids⟩
theorem NodeIn.deeper {F : Nat → Prop} {w : World} {d e : Nat} {n : Nd} {a : Option Addr} (h : NodeIn w F d n a) (hde : d ≤ e) : NodeIn w F e n a :=
  ⟨h.vwf, h.mwf, h.nsz, h.ksz, h.kids.deeper hde⟩
theorem info_node : (Try.prog.info? 30).map (·.size) = some 41 := by kernel_rfl
theorem info_value : (Try.prog.info? 24).map (·.size) = some 35 := by kernel_rfl
theorem info_marks : (Try.prog.info? 27).map (·.size) = some 4 := by kernel_rfl
end Go.Proofs.Ythnbinlllmkabaa
