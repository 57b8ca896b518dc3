/- Plain laws on the weak sum: what it becomes where a window moves on by a byte. -/
import Derived.Test.YtefobboakikpbaaRoll1
namespace Go.Proofs.Ytefobboakikpbaa
set_option linter.unusedVariables false
set_option linter.unusedSimpArgs false

def lowL : List UInt8 → Int
  | [] => 0
  | b :: r => b.toNat + lowL r
def highL : List UInt8 → Int
  | [] => 0
  | b :: r => ((r.length : Int) + 1) * b.toNat + highL r

theorem lowTo_cons (b : UInt8) (r : List UInt8) (k : Nat) : lowTo (b :: r) (k + 1) = b.toNat + lowTo r k := by
  induction k with
  | zero => simp [lowTo]
  | succ k ih => rw [lowTo, ih]; simp [lowTo]; omega
theorem highTo_cons (b : UInt8) (r : List UInt8) (k : Nat) : highTo (b :: r) (k + 1) = ((r.length : Int) + 1) * b.toNat + highTo r k := by
  induction k with
  | zero => simp [highTo]
  | succ k ih =>
    rw [highTo, ih]
    simp only [highTo, List.length_cons, List.getD_cons_succ]
    rw [show (((r.length + 1 : Nat) : Int) - ((k + 1 : Nat) : Int)) = (r.length : Int) - k by omega]
    omega
theorem lowTo_all (l : List UInt8) : lowTo l l.length = lowL l := by
  induction l with
  | nil => rfl
  | cons b r ih => rw [List.length_cons, lowTo_cons, ih]; rfl
theorem highTo_all (l : List UInt8) : highTo l l.length = highL l := by
  induction l with
  | nil => rfl
  | cons b r ih => rw [List.length_cons, highTo_cons, ih]; rfl
theorem lowL_snoc (l : List UInt8) (x : UInt8) : lowL (l ++ [x]) = lowL l + x.toNat := by
  induction l with
  | nil => simp [lowL]
  | cons b r ih => simp only [List.cons_append, lowL, ih]; omega
theorem highL_snoc (l : List UInt8) (x : UInt8) : highL (l ++ [x]) = highL l + lowL l + x.toNat := by
  induction l with
  | nil => simp [lowL, highL]
  | cons b r ih =>
    simp only [List.cons_append, lowL, highL, ih, List.length_append, List.length_cons, List.length_nil]
    rw [show (((r.length + (0 + 1) : Nat) : Int) + 1) = ((r.length : Int) + 1) + 1 by omega, Int.add_mul (_ + 1) 1, Int.one_mul]
    omega

/-- A ring read from a place on. -/
def rot (ring : List UInt8) (k : Nat) : List UInt8 := ring.drop k ++ ring.take k
theorem rot_zero (ring : List UInt8) : rot ring 0 = ring := by simp [rot]
theorem rot_length (ring : List UInt8) (k : Nat) (h : k ≤ ring.length) : (rot ring k).length = ring.length := by simp [rot]; omega
theorem rot_set (ring : List UInt8) (k : Nat) (x : UInt8) (h : k < ring.length) :
    rot (ring.set k x) ((k + 1) % ring.length) = (rot ring k).tail ++ [x] ∧ rot ring k = ring[k] :: (rot ring k).tail := by
  have e1 : rot ring k = ring[k] :: (ring.drop (k + 1) ++ ring.take k) := by
    unfold rot; rw [List.drop_eq_getElem_cons h]; rfl
  refine ⟨?_, by rw [e1]; rfl⟩
  rw [e1]
  simp only [List.tail_cons]
  have hset : ring.set k x = ring.take k ++ x :: ring.drop (k + 1) := by rw [List.set_eq_take_append_cons_drop, if_pos h]
  by_cases hk : k + 1 = ring.length
  · rw [hk, Nat.mod_self, rot_zero, hset, List.drop_of_length_le (by omega)]
    simp
  · rw [Nat.mod_eq_of_lt (by omega)]
    unfold rot
    rw [hset]
    have hl : (ring.take k).length = k := by simp; omega
    have e2 : ring.take k ++ x :: ring.drop (k + 1) = (ring.take k ++ [x]) ++ ring.drop (k + 1) := by simp
    rw [e2, List.drop_append_of_le_length (by simp; omega), List.drop_of_length_le (by simp; omega), List.take_append_of_le_length (by simp; omega), List.take_of_length_le (by simp; omega)]
    simp

/-- What a roller holds: its ring read from its place on is the window; its halves are the window's. -/
def Rolls (ring : List UInt8) (k : Nat) (low high : Int) (win : List UInt8) : Prop :=
  rot ring k = win ∧ (k < ring.length ∨ ring = [] ∧ k = 0) ∧ low = lowL win % 4294967296 ∧ high = highL win % 4294967296
theorem Rolls.length {ring : List UInt8} {k : Nat} {low high : Int} {win : List UInt8} (h : Rolls ring k low high win) : ring.length = win.length := by
  obtain ⟨rfl, hk, _⟩ := h
  rw [rot_length]
  rcases hk with hk | ⟨rfl, rfl⟩
  · omega
  · exact Nat.le_refl _
theorem Rolls.start (l : List UInt8) : Rolls l 0 (lowL l % 4294967296) (highL l % 4294967296) l := by
  refine ⟨rot_zero l, ?_, rfl, rfl⟩
  cases l with
  | nil => exact .inr ⟨rfl, rfl⟩
  | cons b r => exact .inl (by simp)
theorem Rolls.step {ring : List UInt8} {k : Nat} {low high : Int} {win : List UInt8} (h : Rolls ring k low high win) (hk : k < ring.length) (x : UInt8) :
    Rolls (ring.set k x) ((k + 1) % ring.length) ((low + x.toNat - ring[k].toNat) % 4294967296)
      ((high + (low + x.toNat - ring[k].toNat) % 4294967296 - ring.length * ring[k].toNat) % 4294967296) (win.tail ++ [x]) := by
  obtain ⟨rfl, _, rfl, rfl⟩ := h
  obtain ⟨h1, h2⟩ := rot_set ring k x hk
  have hl := rot_length ring k (by omega)
  have hmod := Nat.mod_lt (k + 1) (show 0 < ring.length by omega)
  generalize (rot ring k).tail = r at *
  refine ⟨h1, .inl (by simpa using hmod), ?_, ?_⟩
  · rw [h2, lowL_snoc, lowL]; omega
  · have hr : (ring.length : Int) = r.length + 1 := by rw [← hl, h2]; simp
    rw [h2, highL_snoc, lowL, highL, hr]
    generalize ((r.length : Int) + 1) * ring[k].toNat = q
    omega
/-- The window's weak sum is what the roller tells. -/
theorem weakOf_rolls {ring : List UInt8} {k : Nat} {low high : Int} {win : List UInt8} (h : Rolls ring k low high win) : weakOf low high = weakOf (lowTo win win.length) (highTo win win.length) := by
  obtain ⟨_, _, rfl, rfl⟩ := h
  rw [lowTo_all, highTo_all]
  unfold weakOf; omega
end Go.Proofs.Ytefobboakikpbaa
