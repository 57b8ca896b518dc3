/- The reference's small functions: turn (at each count that occurs), starts, roots, padded. (Printed by a small program.) -/
import Derived.Test.YtefobboakikpbaaDoorMore
namespace Go.Proofs.YtefobboakikpbaaDoor
open Go.RowKit
set_option linter.unusedVariables false
set_option linter.unusedSimpArgs false

theorem u64_or_nat' (a b : Nat) (ha : a < 18446744073709551616) (hb : b < 18446744073709551616) : bits .or .u64 (a : Int) (b : Int) = ((a ||| b : Nat) : Int) := by
  have h64 : ∀ c : Nat, c < 18446744073709551616 → (BitVec.ofInt 64 (c : Int)).toNat = c := fun c hc => by
    rw [BitVec.ofInt_natCast, BitVec.toNat_ofNat]; exact Nat.mod_eq_of_lt (by omega)
  have hx : a ||| b < 2 ^ 64 := Nat.or_lt_two_pow (by omega) (by omega)
  show IntKind.u64.wrap ((BitVec.ofInt 64 (a : Int) ||| BitVec.ofInt 64 (b : Int)).toNat : Int) = _
  rw [BitVec.toNat_or, h64 a ha, h64 b hb]
  simp [IntKind.wrap, IntKind.bits, IntKind.signed]
  omega
theorem u64_xor_nat' (a b : Nat) (ha : a < 18446744073709551616) (hb : b < 18446744073709551616) : bits .xor .u64 (a : Int) (b : Int) = ((a ^^^ b : Nat) : Int) := by
  have h64 : ∀ c : Nat, c < 18446744073709551616 → (BitVec.ofInt 64 (c : Int)).toNat = c := fun c hc => by
    rw [BitVec.ofInt_natCast, BitVec.toNat_ofNat]; exact Nat.mod_eq_of_lt (by omega)
  have hx : a ^^^ b < 2 ^ 64 := Nat.xor_lt_two_pow (by omega) (by omega)
  show IntKind.u64.wrap ((BitVec.ofInt 64 (a : Int) ^^^ BitVec.ofInt 64 (b : Int)).toNat : Int) = _
  rw [BitVec.toNat_xor, h64 a ha, h64 b hb]
  simp [IntKind.wrap, IntKind.bits, IntKind.signed]
  omega
theorem u64_and_nat' (a b : Nat) (ha : a < 18446744073709551616) (hb : b < 18446744073709551616) : bits .and .u64 (a : Int) (b : Int) = ((a &&& b : Nat) : Int) := by
  have h64 : ∀ c : Nat, c < 18446744073709551616 → (BitVec.ofInt 64 (c : Int)).toNat = c := fun c hc => by
    rw [BitVec.ofInt_natCast, BitVec.toNat_ofNat]; exact Nat.mod_eq_of_lt (by omega)
  have hx : a &&& b < 2 ^ 64 := Nat.and_lt_two_pow _ (by omega)
  show IntKind.u64.wrap ((BitVec.ofInt 64 (a : Int) &&& BitVec.ofInt 64 (b : Int)).toNat : Int) = _
  rw [BitVec.toNat_and, h64 a ha, h64 b hb]
  simp [IntKind.wrap, IntKind.bits, IntKind.signed]
  omega
theorem turn_bits (x p q k : Nat) (hx : x < 4294967296) (hp : p = 2 ^ (32 - k)) (hq : q = 2 ^ k) (hp2 : p ≤ 4294967296) : (bits BinOp.or IntKind.u64 ((x : Int) / (q : Int)) ((x : Int) * (p : Int))).tmod 4294967296 = ((rotr x k : Nat) : Int) := by
  have hxp : x * p < 18446744073709551616 := by
    have := Nat.mul_lt_mul_of_lt_of_le hx hp2 (by decide); omega
  have e1 : ((x : Int) / (q : Int)) = ((x / q : Nat) : Int) := rfl
  have e2 : ((x : Int) * (p : Int)) = ((x * p : Nat) : Int) := by rw [← Int.natCast_mul]
  rw [e1, e2, u64_or_nat' _ _ (Nat.lt_of_le_of_lt (Nat.div_le_self _ _) (by omega)) hxp]
  have e3 : (x / q ||| x * p) % 4294967296 = rotr x k := by
    unfold rotr
    have hd : x / q < 2 ^ 32 := Nat.lt_of_le_of_lt (Nat.div_le_self _ _) hx
    rw [show (4294967296 : Nat) = 2 ^ 32 from rfl, Nat.or_mod_two_pow, Nat.mod_eq_of_lt hd, hp, hq, Nat.or_comm]
  rw [← e3]; rfl
set_option maxHeartbeats 1000000 in
theorem turn_7 (x : Nat) (hx : x < 4294967296) (w : World) :
    Calls Tryd.prog 66 #[.int .u64 (x : Nat), .int .u64 7] w fun e w' => e = .returned (.int .u64 (rotr x 7 : Nat)) ∧ w' = w := by
  have hb := Lib.hid (turn_bits x 33554432 128 7 hx rfl rfl (by decide))
  go_enter Tryd.func66, Tryd.ntmps66
  go_wp2
  go_ret
  exact ⟨congrArg (fun z => Ending.returned (.int .u64 z)) hb.out, rfl⟩
set_option maxHeartbeats 1000000 in
theorem turn_18 (x : Nat) (hx : x < 4294967296) (w : World) :
    Calls Tryd.prog 66 #[.int .u64 (x : Nat), .int .u64 18] w fun e w' => e = .returned (.int .u64 (rotr x 18 : Nat)) ∧ w' = w := by
  have hb := Lib.hid (turn_bits x 16384 262144 18 hx rfl rfl (by decide))
  go_enter Tryd.func66, Tryd.ntmps66
  go_wp2
  go_ret
  exact ⟨congrArg (fun z => Ending.returned (.int .u64 z)) hb.out, rfl⟩
set_option maxHeartbeats 1000000 in
theorem turn_17 (x : Nat) (hx : x < 4294967296) (w : World) :
    Calls Tryd.prog 66 #[.int .u64 (x : Nat), .int .u64 17] w fun e w' => e = .returned (.int .u64 (rotr x 17 : Nat)) ∧ w' = w := by
  have hb := Lib.hid (turn_bits x 32768 131072 17 hx rfl rfl (by decide))
  go_enter Tryd.func66, Tryd.ntmps66
  go_wp2
  go_ret
  exact ⟨congrArg (fun z => Ending.returned (.int .u64 z)) hb.out, rfl⟩
set_option maxHeartbeats 1000000 in
theorem turn_19 (x : Nat) (hx : x < 4294967296) (w : World) :
    Calls Tryd.prog 66 #[.int .u64 (x : Nat), .int .u64 19] w fun e w' => e = .returned (.int .u64 (rotr x 19 : Nat)) ∧ w' = w := by
  have hb := Lib.hid (turn_bits x 8192 524288 19 hx rfl rfl (by decide))
  go_enter Tryd.func66, Tryd.ntmps66
  go_wp2
  go_ret
  exact ⟨congrArg (fun z => Ending.returned (.int .u64 z)) hb.out, rfl⟩
set_option maxHeartbeats 1000000 in
theorem turn_6 (x : Nat) (hx : x < 4294967296) (w : World) :
    Calls Tryd.prog 66 #[.int .u64 (x : Nat), .int .u64 6] w fun e w' => e = .returned (.int .u64 (rotr x 6 : Nat)) ∧ w' = w := by
  have hb := Lib.hid (turn_bits x 67108864 64 6 hx rfl rfl (by decide))
  go_enter Tryd.func66, Tryd.ntmps66
  go_wp2
  go_ret
  exact ⟨congrArg (fun z => Ending.returned (.int .u64 z)) hb.out, rfl⟩
set_option maxHeartbeats 1000000 in
theorem turn_11 (x : Nat) (hx : x < 4294967296) (w : World) :
    Calls Tryd.prog 66 #[.int .u64 (x : Nat), .int .u64 11] w fun e w' => e = .returned (.int .u64 (rotr x 11 : Nat)) ∧ w' = w := by
  have hb := Lib.hid (turn_bits x 2097152 2048 11 hx rfl rfl (by decide))
  go_enter Tryd.func66, Tryd.ntmps66
  go_wp2
  go_ret
  exact ⟨congrArg (fun z => Ending.returned (.int .u64 z)) hb.out, rfl⟩
set_option maxHeartbeats 1000000 in
theorem turn_25 (x : Nat) (hx : x < 4294967296) (w : World) :
    Calls Tryd.prog 66 #[.int .u64 (x : Nat), .int .u64 25] w fun e w' => e = .returned (.int .u64 (rotr x 25 : Nat)) ∧ w' = w := by
  have hb := Lib.hid (turn_bits x 128 33554432 25 hx rfl rfl (by decide))
  go_enter Tryd.func66, Tryd.ntmps66
  go_wp2
  go_ret
  exact ⟨congrArg (fun z => Ending.returned (.int .u64 z)) hb.out, rfl⟩
set_option maxHeartbeats 1000000 in
theorem turn_2 (x : Nat) (hx : x < 4294967296) (w : World) :
    Calls Tryd.prog 66 #[.int .u64 (x : Nat), .int .u64 2] w fun e w' => e = .returned (.int .u64 (rotr x 2 : Nat)) ∧ w' = w := by
  have hb := Lib.hid (turn_bits x 1073741824 4 2 hx rfl rfl (by decide))
  go_enter Tryd.func66, Tryd.ntmps66
  go_wp2
  go_ret
  exact ⟨congrArg (fun z => Ending.returned (.int .u64 z)) hb.out, rfl⟩
set_option maxHeartbeats 1000000 in
theorem turn_13 (x : Nat) (hx : x < 4294967296) (w : World) :
    Calls Tryd.prog 66 #[.int .u64 (x : Nat), .int .u64 13] w fun e w' => e = .returned (.int .u64 (rotr x 13 : Nat)) ∧ w' = w := by
  have hb := Lib.hid (turn_bits x 524288 8192 13 hx rfl rfl (by decide))
  go_enter Tryd.func66, Tryd.ntmps66
  go_wp2
  go_ret
  exact ⟨congrArg (fun z => Ending.returned (.int .u64 z)) hb.out, rfl⟩
set_option maxHeartbeats 1000000 in
theorem turn_22 (x : Nat) (hx : x < 4294967296) (w : World) :
    Calls Tryd.prog 66 #[.int .u64 (x : Nat), .int .u64 22] w fun e w' => e = .returned (.int .u64 (rotr x 22 : Nat)) ∧ w' = w := by
  have hb := Lib.hid (turn_bits x 1024 4194304 22 hx rfl rfl (by decide))
  go_enter Tryd.func66, Tryd.ntmps66
  go_wp2
  go_ret
  exact ⟨congrArg (fun z => Ending.returned (.int .u64 z)) hb.out, rfl⟩

/-- Whole numbers of 64 bits as cells. -/
def nums64 (l : List Nat) : List Value := l.map fun x => .int .u64 (x : Nat)
theorem nums64_length (l : List Nat) : (nums64 l).length = l.length := by simp [nums64]
theorem nums64_append (k l : List Nat) : nums64 (k ++ l) = nums64 k ++ nums64 l := by simp [nums64]
theorem nums64_get (l : List Nat) (j : Nat) (h : j < l.length) : (nums64 l)[j]? = some (.int .u64 (l.getD j 0 : Nat)) := by
  simp [nums64, h]
theorem nums64_one (l : List Nat) : ∀ u ∈ nums64 l, u.oneCell' = true := by
  intro u hu
  simp only [nums64, List.mem_map] at hu
  obtain ⟨x, _, rfl⟩ := hu
  rfl
theorem starts_any (w : World) :
    Calls Tryd.prog 45 #[] w fun e w' => e = .returned (.slice (some ⟨w.heap.size, 0, none⟩) 8 8) ∧ Own w' 90 1 (.slice (some ⟨w.heap.size, 0, none⟩) 8 8) 8 (nums64 (stList start)) ∧ Below w.heap.size w w' := by
  go_enter Tryd.func45, Tryd.ntmps45
  go_wp2
  go_ret
  exact ⟨rfl, Own.made w 90 1 8 _ rfl (by decide), (Below.refl _ _).alloc (Nat.le_refl _) _⟩
set_option maxRecDepth 100000 in
theorem roots_any (w : World) :
    Calls Tryd.prog 46 #[] w fun e w' => e = .returned (.slice (some ⟨w.heap.size, 0, none⟩) 64 64) ∧ Own w' 90 1 (.slice (some ⟨w.heap.size, 0, none⟩) 64 64) 64 (nums64 keys) ∧ Below w.heap.size w w' := by
  go_enter Tryd.func46, Tryd.ntmps46
  go_wp2
  go_ret
  exact ⟨rfl, Own.made w 90 1 64 _ rfl (by decide), (Below.refl _ _).alloc (Nat.le_refl _) _⟩
end Go.Proofs.YtefobboakikpbaaDoor
