/- Plain laws of CRC-32. Nothing of the program stands here. -/
import Derived.Test.YtefobboakikpbaaDoorCrc
namespace Go.Proofs.YtefobboakikpbaaDoor
open Go.RowKit
set_option linter.unusedVariables false
set_option linter.unusedSimpArgs false

/-- One bit that comes out. -/
def bitStep (x : Nat) : Nat := (x / 2) ^^^ (if x % 2 = 1 then 3988292384 else 0)
theorem xor_half (x y : Nat) : (x ^^^ y) / 2 = x / 2 ^^^ y / 2 := by
  have := Nat.xor_div_two_pow (a := x) (b := y) (n := 1)
  simpa using this
theorem xor_low (x y : Nat) : (x ^^^ y) % 2 = (x % 2) ^^^ (y % 2) := by
  have := Nat.xor_mod_two_pow (a := x) (b := y) (n := 1)
  simpa using this
theorem bitStep_xor (x y : Nat) : bitStep (x ^^^ y) = bitStep x ^^^ bitStep y := by
  unfold bitStep
  rw [xor_half, xor_low]
  rcases Nat.mod_two_eq_zero_or_one x with hx | hx <;> rcases Nat.mod_two_eq_zero_or_one y with hy | hy <;> rw [hx, hy] <;> simp only [Nat.xor_zero, Nat.zero_xor, Nat.xor_self, if_true, if_false, Nat.zero_ne_one]
  · rw [Nat.xor_assoc]
  · rw [Nat.xor_assoc, Nat.xor_assoc, Nat.xor_comm (y / 2)]
  · rw [Nat.xor_assoc, ← Nat.xor_assoc 3988292384, Nat.xor_comm 3988292384, Nat.xor_assoc (y / 2), Nat.xor_self, Nat.xor_zero]
theorem bitStep_double (x : Nat) : bitStep (2 * x) = x := by
  unfold bitStep
  rw [show 2 * x % 2 = 0 by omega, show 2 * x / 2 = x by omega]
  simp
theorem bitStep_lt (x : Nat) (h : x < 4294967296) : bitStep x < 4294967296 := by
  unfold bitStep
  refine lt32_xor (by omega) (by split <;> decide)
theorem bitStep_ne (x : Nat) (h : x < 4294967296) (h0 : x ≠ 0) : bitStep x ≠ 0 := by
  unfold bitStep
  split
  · intro he
    have h31 : (x / 2 ^^^ 3988292384).testBit 31 = false := by rw [he]; rfl
    rw [Nat.testBit_xor, Nat.testBit_lt_two_pow (show x / 2 < 2 ^ 31 by omega)] at h31
    revert h31; decide
  · rw [Nat.xor_zero]; omega
/-- So many bits. -/
def bitsOut : Nat → Nat → Nat
  | 0, x => x
  | k + 1, x => bitsOut k (bitStep x)
theorem bitsOut_add (a b x : Nat) : bitsOut (a + b) x = bitsOut b (bitsOut a x) := by
  induction a generalizing x with
  | zero => rw [Nat.zero_add]; rfl
  | succ a ih => rw [show a + 1 + b = (a + b) + 1 by omega]; exact ih _
theorem bitsOut_xor (k x y : Nat) : bitsOut k (x ^^^ y) = bitsOut k x ^^^ bitsOut k y := by
  induction k generalizing x y with
  | zero => rfl
  | succ k ih => show bitsOut k (bitStep _) = _; rw [bitStep_xor, ih]; rfl
theorem bitsOut_shift (k x : Nat) : bitsOut k (2 ^ k * x) = x := by
  induction k generalizing x with
  | zero => rw [Nat.pow_zero, Nat.one_mul]; rfl
  | succ k ih =>
    show bitsOut k (bitStep _) = x
    rw [Nat.pow_succ, Nat.mul_comm (2 ^ k) 2, Nat.mul_assoc, bitStep_double, ih]
theorem bitsOut_ne (k x : Nat) (h : x < 4294967296) (h0 : x ≠ 0) : bitsOut k x ≠ 0 := by
  induction k generalizing x with
  | zero => exact h0
  | succ k ih => exact ih _ (bitStep_lt x h) (bitStep_ne x h h0)
theorem two_pow_xor {i b : Nat} (h : b < 2 ^ i) (a : Nat) : 2 ^ i * a + b = 2 ^ i * a ^^^ b := by
  apply Nat.eq_of_testBit_eq
  intro j
  rw [Nat.testBit_two_pow_mul_add a h j, Nat.testBit_xor, Nat.testBit_two_pow_mul]
  by_cases hj : j < i
  · simp [hj, show ¬ i ≤ j by omega]
  · rw [Nat.testBit_lt_two_pow (Nat.lt_of_lt_of_le h (Nat.pow_le_pow_right (by decide) (show i ≤ j by omega)))]
    simp [hj, show i ≤ j by omega]
theorem two_pow_mul_xor (k a b : Nat) : 2 ^ k * (a ^^^ b) = 2 ^ k * a ^^^ 2 ^ k * b := by
  apply Nat.eq_of_testBit_eq
  intro j
  simp only [Nat.testBit_xor, Nat.testBit_two_pow_mul]
  cases decide (j ≥ k) <;> simp
theorem mix_low : ∀ j, j < 16 → bitsOut 4 j = foursL.getD j 0 := by decide +kernel
theorem crcMix_bits (y : Nat) : crcMix y = bitsOut 4 y := by
  have h : y = 2 ^ 4 * (y / 16) ^^^ y % 16 := by
    rw [← two_pow_xor (i := 4) (Nat.mod_lt y (by decide)) (y / 16)]; omega
  conv => rhs; rw [h, bitsOut_xor, bitsOut_shift, mix_low _ (Nat.mod_lt y (by decide))]
  rfl
theorem crcByte_bits (x c : Nat) : crcByte x c = bitsOut 8 (x ^^^ c) := by
  unfold crcByte
  rw [crcMix_bits, crcMix_bits, ← bitsOut_add]
/-- Bytes as one number, the lowest first. -/
def numOf : List UInt8 → Nat
  | [] => 0
  | c :: l => c.toNat + 256 * numOf l
theorem byte_xor (c : UInt8) (v : Nat) : c.toNat + 256 * v = 2 ^ 8 * v ^^^ c.toNat := by
  rw [← two_pow_xor (i := 8) c.toNat_lt v, Nat.add_comm]
theorem crcFrom_bits (s : Nat) (l : List UInt8) : crcFrom s l = bitsOut (8 * l.length) (s ^^^ numOf l) := by
  induction l generalizing s with
  | nil => show s = s ^^^ 0; rw [Nat.xor_zero]
  | cons c l ih =>
    show crcFrom (crcByte s c.toNat) l = _
    rw [ih, crcByte_bits, List.length_cons, show 8 * (l.length + 1) = 8 + 8 * l.length by omega, bitsOut_add]
    congr 1
    show _ = bitsOut 8 (s ^^^ (c.toNat + 256 * numOf l))
    rw [byte_xor, Nat.xor_comm (2 ^ 8 * _), ← Nat.xor_assoc, bitsOut_xor 8 _ (2 ^ 8 * _), bitsOut_shift]
theorem crc_xor (l : List UInt8) : crc l = 4294967295 ^^^ crcFrom 4294967295 l := by
  have h := crcFrom_lt 4294967295 l (by decide)
  unfold crc
  generalize crcFrom 4294967295 l = e at h
  have h1 := not32_step e h
  have hm : Go.IntKind.u32.max = ((4294967295 : Nat) : Int) := by decide
  rw [hm, u32_xor_nat 4294967295 e (by decide) h] at h1
  exact (Int.ofNat_inj.1 h1).symm
theorem numOf_inj (k l : List UInt8) (h : k.length = l.length) (hn : numOf k = numOf l) : k = l := by
  induction k generalizing l with
  | nil => cases l with
    | nil => rfl
    | cons _ _ => cases h
  | cons a k ih =>
    cases l with
    | nil => cases h
    | cons b l =>
      have ha := a.toNat_lt
      have hb := b.toNat_lt
      simp only [numOf] at hn
      have h1 : a.toNat = b.toNat := by omega
      have h2 : numOf k = numOf l := by omega
      rw [UInt8.toNat_inj.1 h1, ih l (by simpa using h) h2]

/-- Bits that are turned within 32 change the state behind them. -/
theorem crcFrom_turned (s : Nat) (k l : List UInt8) (hl : k.length = l.length) (at_ d : Nat) (ha : at_ ≤ 8 * l.length) (hd : d < 4294967296) (hn : numOf k = numOf l ^^^ 2 ^ at_ * d) (hne : k ≠ l) : crcFrom s k ≠ crcFrom s l := by
  have hd0 : d ≠ 0 := by
    rintro rfl
    rw [Nat.mul_zero, Nat.xor_zero] at hn
    exact hne (numOf_inj k l hl hn)
  rw [crcFrom_bits, crcFrom_bits, hl, hn, ← Nat.xor_assoc, bitsOut_xor]
  intro h
  have h2 : bitsOut (8 * l.length) (2 ^ at_ * d) = 0 := by
    have h3 := congrArg (fun z => bitsOut (8 * l.length) (s ^^^ numOf l) ^^^ z) h
    simp only [← Nat.xor_assoc, Nat.xor_self, Nat.zero_xor] at h3
    exact h3
  rw [show 8 * l.length = at_ + (8 * l.length - at_) by omega, bitsOut_add, bitsOut_shift] at h2
  exact bitsOut_ne _ d hd hd0 h2

/-- A sum as it is laid down. -/
def fourLow (x : Nat) : List UInt8 := [UInt8.ofNat x, UInt8.ofNat (x / 256), UInt8.ofNat (x / 65536), UInt8.ofNat (x / 16777216)]
theorem numOf_four (x : Nat) (h : x < 4294967296) : numOf (fourLow x) = x := by
  simp only [fourLow, numOf, UInt8.toNat_ofNat']
  omega
theorem numOf_append (k l : List UInt8) : numOf (k ++ l) = numOf k + 2 ^ (8 * k.length) * numOf l := by
  induction k with
  | nil => simp [numOf]
  | cons a k ih =>
    simp only [List.cons_append, numOf, ih, List.length_cons]
    rw [show 8 * (k.length + 1) = 8 + 8 * k.length by omega, Nat.pow_add, Nat.mul_add, Nat.mul_assoc, show (2 : Nat) ^ 8 = 256 from rfl]
    omega
/-- The state behind bytes that end with their sum is one and the same. -/
theorem crcFrom_own (l : List UInt8) : crcFrom 4294967295 (l ++ fourLow (crc l)) = bitsOut 32 4294967295 := by
  rw [crcFrom_append, crcFrom_bits _ (fourLow _), numOf_four _ (crc_lt l), crc_xor, Nat.xor_comm 4294967295, ← Nat.xor_assoc, Nat.xor_self, Nat.zero_xor]
  rfl
theorem crc_own_turned (l y : List UInt8) (hl : y.length = (l ++ fourLow (crc l)).length) (at_ d : Nat) (ha : at_ ≤ 8 * y.length) (hd : d < 4294967296) (hn : numOf y = numOf (l ++ fourLow (crc l)) ^^^ 2 ^ at_ * d) (hne : y ≠ l ++ fourLow (crc l)) :
    y.drop l.length ≠ fourLow (crc (y.take l.length)) := by
  intro h
  have hy : y = y.take l.length ++ fourLow (crc (y.take l.length)) := by rw [← h, List.take_append_drop]
  have h1 := crcFrom_own l
  have h2 := crcFrom_own (y.take l.length)
  rw [← hy] at h2
  exact crcFrom_turned 4294967295 y _ hl at_ d (by rw [← hl]; exact ha) hd hn hne (h2.trans h1.symm)
theorem crc_turned (k l : List UInt8) (hl : k.length = l.length) (at_ d : Nat) (ha : at_ ≤ 8 * l.length) (hd : d < 4294967296) (hn : numOf k = numOf l ^^^ 2 ^ at_ * d) (hne : k ≠ l) : crc k ≠ crc l := by
  have h := crcFrom_turned 4294967295 k l hl at_ d ha hd hn hne
  have h1 := crcFrom_lt 4294967295 k (by decide)
  have h2 := crcFrom_lt 4294967295 l (by decide)
  unfold crc
  omega

/-- One bit is turned. -/
theorem numOf_set (l : List UInt8) (i : Nat) (h : i < l.length) (x : UInt8) (b : Nat) (hx : x.toNat = (l.getD i 0).toNat ^^^ b) (hb : b < 256) : numOf (l.set i x) = numOf l ^^^ 2 ^ (8 * i) * b := by
  induction l generalizing i with
  | nil => cases h
  | cons c l ih =>
    cases i with
    | zero =>
      show x.toNat + 256 * numOf l = (c.toNat + 256 * numOf l) ^^^ _
      rw [byte_xor, byte_xor, hx]
      simp [Nat.xor_assoc]
    | succ i =>
      show c.toNat + 256 * numOf (l.set i x) = (c.toNat + 256 * numOf l) ^^^ _
      rw [ih i (by simpa using h) (by simpa using hx), byte_xor, byte_xor, two_pow_mul_xor]
      rw [show 8 * (i + 1) = 8 + 8 * i by omega, Nat.pow_add, Nat.mul_assoc, Nat.xor_assoc, Nat.xor_comm _ c.toNat, ← Nat.xor_assoc]

/-- The xor of three texts. -/
def xor3 (a b c : List UInt8) : List UInt8 := (List.range (min a.length (min b.length c.length))).map fun i => (a.getD i 0 ^^^ b.getD i 0) ^^^ c.getD i 0
theorem crcByte_xor3 (x y z a b c : Nat) : crcByte ((x ^^^ y) ^^^ z) ((a ^^^ b) ^^^ c) = (crcByte x a ^^^ crcByte y b) ^^^ crcByte z c := by
  rw [crcByte_bits, crcByte_bits, crcByte_bits, crcByte_bits, ← bitsOut_xor, ← bitsOut_xor]
  congr 1
  ac_rfl
theorem crcFrom_xor3 (f : Nat → UInt8) (g : Nat → UInt8) (h : Nat → UInt8) (n x y z : Nat) :
    crcFrom ((x ^^^ y) ^^^ z) ((List.range n).map fun i => (f i ^^^ g i) ^^^ h i) = (crcFrom x ((List.range n).map f) ^^^ crcFrom y ((List.range n).map g)) ^^^ crcFrom z ((List.range n).map h) := by
  induction n with
  | zero => rfl
  | succ n ih =>
    simp only [List.range_succ, List.map_append, crcFrom_append, ih, List.map_cons, List.map_nil]
    show crcByte _ _ = (crcByte _ _ ^^^ crcByte _ _) ^^^ crcByte _ _
    rw [UInt8.toNat_xor, UInt8.toNat_xor, crcByte_xor3]
theorem take_range (l : List UInt8) (n : Nat) (h : n ≤ l.length) : (List.range n).map (fun i => l.getD i 0) = l.take n := by
  apply List.ext_getElem?
  intro i
  by_cases hi : i < n
  · rw [List.getElem?_map, List.getElem?_range hi, List.getElem?_take, if_pos hi, Option.map_some, List.getD_eq_getElem?_getD, List.getElem?_eq_getElem (by omega)]; rfl
  · rw [List.getElem?_eq_none (by simp; omega), List.getElem?_eq_none (by simp; omega)]
theorem crc_xor3 (a b c : List UInt8) (n : Nat) (hn : n = min a.length (min b.length c.length)) : crc (xor3 a b c) = (crc (a.take n) ^^^ crc (b.take n)) ^^^ crc (c.take n) := by
  have h := crcFrom_xor3 (fun i => a.getD i 0) (fun i => b.getD i 0) (fun i => c.getD i 0) n 4294967295 4294967295 4294967295
  rw [take_range a n (by omega), take_range b n (by omega), take_range c n (by omega), Nat.xor_self, Nat.zero_xor] at h
  have h2 : xor3 a b c = (List.range n).map fun i => (a.getD i 0 ^^^ b.getD i 0) ^^^ c.getD i 0 := by rw [hn]; rfl
  rw [h2, crc_xor, crc_xor, crc_xor, crc_xor, h]
  generalize crcFrom 4294967295 (a.take n) = A
  generalize crcFrom 4294967295 (b.take n) = B
  generalize crcFrom 4294967295 (c.take n) = C
  rw [show (4294967295 ^^^ A ^^^ (4294967295 ^^^ B)) ^^^ (4294967295 ^^^ C) = (4294967295 ^^^ 4294967295) ^^^ (4294967295 ^^^ (A ^^^ B ^^^ C)) by ac_rfl, Nat.xor_self, Nat.zero_xor]
end Go.Proofs.YtefobboakikpbaaDoor
