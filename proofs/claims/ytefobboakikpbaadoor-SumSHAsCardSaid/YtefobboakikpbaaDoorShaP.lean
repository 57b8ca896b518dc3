/- SHA-256 as plain functions on numbers. Nothing of the program stands here. -/
namespace Go.Proofs.YtefobboakikpbaaDoor
set_option linter.unusedVariables false

/-- x turned to the right by k bits. -/
def rotr (x k : Nat) : Nat := (x * 2 ^ (32 - k) % 4294967296) ||| (x / 2 ^ k)
theorem rotr_lt (x k : Nat) (hx : x < 4294967296) : rotr x k < 4294967296 := by
  unfold rotr
  exact Nat.or_lt_two_pow (n := 32) (Nat.mod_lt _ (by decide)) (Nat.lt_of_le_of_lt (Nat.div_le_self _ _) hx)

def sig0 (x : Nat) : Nat := (rotr x 7 ^^^ rotr x 18) ^^^ x / 8
def sig1 (x : Nat) : Nat := (rotr x 17 ^^^ rotr x 19) ^^^ x / 1024
def big0 (x : Nat) : Nat := (rotr x 2 ^^^ rotr x 13) ^^^ rotr x 22
def big1 (x : Nat) : Nat := (rotr x 6 ^^^ rotr x 11) ^^^ rotr x 25
def choose (e f g : Nat) : Nat := (e &&& f) ^^^ ((4294967295 - e) &&& g)
def most (a b c : Nat) : Nat := ((a &&& b) ^^^ (a &&& c)) ^^^ (b &&& c)

theorem lt32_xor {a b : Nat} (ha : a < 4294967296) (hb : b < 4294967296) : a ^^^ b < 4294967296 := Nat.xor_lt_two_pow (n := 32) ha hb
theorem lt32_and {a b : Nat} (ha : a < 4294967296) : a &&& b < 4294967296 := Nat.lt_of_le_of_lt Nat.and_le_left ha
theorem lt32_div {a b : Nat} (ha : a < 4294967296) : a / b < 4294967296 := Nat.lt_of_le_of_lt (Nat.div_le_self _ _) ha
theorem sig0_lt (x : Nat) (hx : x < 4294967296) : sig0 x < 4294967296 := lt32_xor (lt32_xor (rotr_lt _ _ hx) (rotr_lt _ _ hx)) (lt32_div hx)
theorem sig1_lt (x : Nat) (hx : x < 4294967296) : sig1 x < 4294967296 := lt32_xor (lt32_xor (rotr_lt _ _ hx) (rotr_lt _ _ hx)) (lt32_div hx)
theorem big0_lt (x : Nat) (hx : x < 4294967296) : big0 x < 4294967296 := lt32_xor (lt32_xor (rotr_lt _ _ hx) (rotr_lt _ _ hx)) (rotr_lt _ _ hx)
theorem big1_lt (x : Nat) (hx : x < 4294967296) : big1 x < 4294967296 := lt32_xor (lt32_xor (rotr_lt _ _ hx) (rotr_lt _ _ hx)) (rotr_lt _ _ hx)

/-- Four bytes as a word. -/
def word4 (b : List UInt8) (t : Nat) : Nat := (b.getD (4 * t) 0).toNat * 16777216 + (b.getD (4 * t + 1) 0).toNat * 65536 + (b.getD (4 * t + 2) 0).toNat * 256 + (b.getD (4 * t + 3) 0).toNat
theorem word4_lt (b : List UInt8) (t : Nat) : word4 b t < 4294967296 := by
  unfold word4
  have h1 := (b.getD (4 * t) 0).toNat_lt
  have h2 := (b.getD (4 * t + 1) 0).toNat_lt
  have h3 := (b.getD (4 * t + 2) 0).toNat_lt
  have h4 := (b.getD (4 * t + 3) 0).toNat_lt
  omega
/-- The next word of a block's schedule, behind those that are there. -/
def nextWord (b : List UInt8) (l : List Nat) : Nat :=
  if l.length < 16 then word4 b l.length
  else (l.getD (l.length - 16) 0 + sig0 (l.getD (l.length - 15) 0) + l.getD (l.length - 7) 0 + sig1 (l.getD (l.length - 2) 0)) % 4294967296
def sched (b : List UInt8) : Nat → List Nat
  | 0 => []
  | k + 1 => sched b k ++ [nextWord b (sched b k)]
theorem sched_length (b : List UInt8) (k : Nat) : (sched b k).length = k := by
  induction k with
  | zero => rfl
  | succ k ih => simp [sched, ih]
theorem nextWord_lt (b : List UInt8) (l : List Nat) : nextWord b l < 4294967296 := by
  unfold nextWord; split
  · exact word4_lt _ _
  · exact Nat.mod_lt _ (by decide)
theorem sched_lt (b : List UInt8) (k : Nat) : ∀ x ∈ sched b k, x < 4294967296 := by
  induction k with
  | zero => intro x hx; cases hx
  | succ k ih =>
    intro x hx
    simp only [sched, List.mem_append, List.mem_singleton] at hx
    rcases hx with hx | rfl
    · exact ih x hx
    · exact nextWord_lt _ _

/-- The eight words. -/
structure St where
  a : Nat
  b : Nat
  c : Nat
  d : Nat
  e : Nat
  f : Nat
  g : Nat
  h : Nat
structure St.Ok (s : St) : Prop where
  a : s.a < 4294967296
  b : s.b < 4294967296
  c : s.c < 4294967296
  d : s.d < 4294967296
  e : s.e < 4294967296
  f : s.f < 4294967296
  g : s.g < 4294967296
  h : s.h < 4294967296
def St.round (s : St) (k w : Nat) : St :=
  let x := (s.h + big1 s.e + choose s.e s.f s.g + k + w) % 4294967296
  let y := (big0 s.a + most s.a s.b s.c) % 4294967296
  ⟨(x + y) % 4294967296, s.a, s.b, s.c, (s.d + x) % 4294967296, s.e, s.f, s.g⟩
theorem St.Ok.round {s : St} (h : s.Ok) (k w : Nat) : (s.round k w).Ok :=
  ⟨Nat.mod_lt _ (by decide), h.a, h.b, h.c, Nat.mod_lt _ (by decide), h.e, h.f, h.g⟩
/-- The first k rounds. -/
def rounds (ks ws : List Nat) (s : St) : Nat → St
  | 0 => s
  | k + 1 => (rounds ks ws s k).round (ks.getD k 0) (ws.getD k 0)
theorem St.Ok.rounds {s : St} (h : s.Ok) (ks ws : List Nat) (k : Nat) : (rounds ks ws s k).Ok := by
  induction k with
  | zero => exact h
  | succ k ih => exact ih.round _ _
def St.add (s t : St) : St :=
  ⟨(s.a + t.a) % 4294967296, (s.b + t.b) % 4294967296, (s.c + t.c) % 4294967296, (s.d + t.d) % 4294967296,
   (s.e + t.e) % 4294967296, (s.f + t.f) % 4294967296, (s.g + t.g) % 4294967296, (s.h + t.h) % 4294967296⟩
theorem St.add_ok (s t : St) : (s.add t).Ok := by
  refine ⟨?_, ?_, ?_, ?_, ?_, ?_, ?_, ?_⟩ <;> exact Nat.mod_lt _ (by decide)
/-- The words K. -/
def keys : List Nat := [
  0x428a2f98, 0x71374491, 0xb5c0fbcf, 0xe9b5dba5, 0x3956c25b, 0x59f111f1, 0x923f82a4, 0xab1c5ed5,
  0xd807aa98, 0x12835b01, 0x243185be, 0x550c7dc3, 0x72be5d74, 0x80deb1fe, 0x9bdc06a7, 0xc19bf174,
  0xe49b69c1, 0xefbe4786, 0x0fc19dc6, 0x240ca1cc, 0x2de92c6f, 0x4a7484aa, 0x5cb0a9dc, 0x76f988da,
  0x983e5152, 0xa831c66d, 0xb00327c8, 0xbf597fc7, 0xc6e00bf3, 0xd5a79147, 0x06ca6351, 0x14292967,
  0x27b70a85, 0x2e1b2138, 0x4d2c6dfc, 0x53380d13, 0x650a7354, 0x766a0abb, 0x81c2c92e, 0x92722c85,
  0xa2bfe8a1, 0xa81a664b, 0xc24b8b70, 0xc76c51a3, 0xd192e819, 0xd6990624, 0xf40e3585, 0x106aa070,
  0x19a4c116, 0x1e376c08, 0x2748774c, 0x34b0bcb5, 0x391c0cb3, 0x4ed8aa4a, 0x5b9cca4f, 0x682e6ff3,
  0x748f82ee, 0x78a5636f, 0x84c87814, 0x8cc70208, 0x90befffa, 0xa4506ceb, 0xbef9a3f7, 0xc67178f2]
def start : St := ⟨0x6a09e667, 0xbb67ae85, 0x3c6ef372, 0xa54ff53a, 0x510e527f, 0x9b05688c, 0x1f83d9ab, 0x5be0cd19⟩
theorem start_ok : start.Ok := by constructor <;> decide
/-- The state behind one more block. -/
def blockOf (s : St) (b : List UInt8) : St := s.add (rounds keys (sched b 64) s 64)
theorem blockOf_ok (s : St) (b : List UInt8) : (blockOf s b).Ok := St.add_ok _ _
/-- The state behind whole blocks: the first n of some bytes. -/
def blocks (s : St) (l : List UInt8) : Nat → St
  | 0 => s
  | n + 1 => blockOf (blocks s l n) ((l.drop (64 * n)).take 64)
theorem blocks_ok {s : St} (h : s.Ok) (l : List UInt8) (n : Nat) : (blocks s l n).Ok := by
  cases n with
  | zero => exact h
  | succ n => exact blockOf_ok _ _
theorem blocks_append (s : St) (l x : List UInt8) (n : Nat) (h : 64 * n ≤ l.length) : blocks s (l ++ x) n = blocks s l n := by
  induction n with
  | zero => rfl
  | succ n ih =>
    simp only [blocks]
    rw [ih (by omega), List.drop_append_of_le_length (by omega), List.take_append_of_le_length (by simp; omega)]
theorem blocks_shift (s : St) (L : List UInt8) (d k : Nat) : blocks (blocks s L d) (L.drop (64 * d)) k = blocks s L (d + k) := by
  induction k with
  | zero => rfl
  | succ k ih =>
    rw [blocks, ih, List.drop_drop, show 64 * d + 64 * k = 64 * (d + k) by omega]; rfl
/-- A number in eight bytes, the highest first: the first j of them. -/
def be8 (n : Nat) : Nat → List UInt8
  | 0 => []
  | j + 1 => be8 n j ++ [UInt8.ofNat (n / 2 ^ (8 * (7 - j)))]
theorem be8_length (n j : Nat) : (be8 n j).length = j := by
  induction j with
  | zero => rfl
  | succ j ih => simp [be8, ih]
def zeros (r : Nat) : Nat := (119 - r % 64) % 64
/-- What is laid behind some bytes, which are n: behind the r that are no whole block. -/
def tailOf (rest : List UInt8) (n : Nat) : List UInt8 := rest ++ [128] ++ List.replicate (zeros rest.length) 0 ++ be8 (8 * n) 8
def four (x : Nat) : List UInt8 := [UInt8.ofNat (x / 16777216), UInt8.ofNat (x / 65536), UInt8.ofNat (x / 256), UInt8.ofNat x]
def stList (s : St) : List Nat := [s.a, s.b, s.c, s.d, s.e, s.f, s.g, s.h]
def outBytes (s : St) : List UInt8 := (stList s).flatMap four
theorem outBytes_length (s : St) : (outBytes s).length = 32 := rfl
/-- SHA-256. -/
def sha (l : List UInt8) : List UInt8 := outBytes (blocks start (tailOf l l.length) ((tailOf l l.length).length / 64))
theorem sha_length (l : List UInt8) : (sha l).length = 32 := rfl
theorem tailOf_length (rest : List UInt8) (n : Nat) : (tailOf rest n).length = rest.length + 9 + zeros rest.length := by
  simp [tailOf, be8_length]; omega
theorem tailOf_whole (rest : List UInt8) (n : Nat) : (tailOf rest n).length % 64 = 0 := by
  rw [tailOf_length]; unfold zeros; omega
/-- It is told from the state behind the whole blocks, and what is left. -/
theorem sha_rest (l : List UInt8) : sha l = outBytes (blocks (blocks start l (l.length / 64)) (tailOf (l.drop (64 * (l.length / 64))) l.length) ((tailOf (l.drop (64 * (l.length / 64))) l.length).length / 64)) := by
  have hz : zeros (l.drop (64 * (l.length / 64))).length = zeros l.length := by unfold zeros; rw [List.length_drop]; omega
  have ht : tailOf (l.drop (64 * (l.length / 64))) l.length = (tailOf l l.length).drop (64 * (l.length / 64)) := by
    unfold tailOf
    rw [hz, List.append_assoc, List.append_assoc, List.append_assoc, List.append_assoc, List.drop_append_of_le_length (by omega)]
  have hb : blocks start l (l.length / 64) = blocks start (tailOf l l.length) (l.length / 64) := by
    unfold tailOf
    rw [List.append_assoc, List.append_assoc, blocks_append _ _ _ _ (by omega)]
  unfold sha
  rw [hb, ht, blocks_shift, List.length_drop]
  congr 2
  have := tailOf_length l l.length
  omega
end Go.Proofs.YtefobboakikpbaaDoor
