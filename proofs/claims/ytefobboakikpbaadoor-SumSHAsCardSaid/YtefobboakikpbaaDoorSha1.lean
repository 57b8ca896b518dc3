/- The pure words of SHA-256's rotations, and the contracts of sum.right at each count that occurs. (Written by wip/gen_sha1.py.) -/
import Derived.Test.YtefobboakikpbaaDoorProg
import Derived.Test.YtefobboakikpbaaDoorBase
import Derived.Test.YtefobboakikpbaaDoorShaP
namespace Go.Proofs.YtefobboakikpbaaDoor
open Go.RowKit
set_option linter.unusedVariables false
set_option linter.unusedSimpArgs false

theorem rot_eq (x p q : Nat) (hx : x < 4294967296) : bits BinOp.or IntKind.u32 ((x : Int) * (p : Int) % 4294967296) ((x : Int) / (q : Int)) = (((x * p % 4294967296) ||| (x / q) : Nat) : Int) := by
  have e1 : ((x : Int) * (p : Int) % 4294967296) = ((x * p % 4294967296 : Nat) : Int) := by rw [← Int.natCast_mul]; rfl
  have e2 : ((x : Int) / (q : Int)) = ((x / q : Nat) : Int) := rfl
  rw [e1, e2, u32_or_nat _ _ (Nat.mod_lt _ (by decide)) (Nat.lt_of_le_of_lt (Nat.div_le_self _ _) hx)]

theorem rot_bits_2 (x : Nat) (hx : x < 4294967296) : bits BinOp.or IntKind.u32 ((x : Int) * 1073741824 % 4294967296) ((x : Int) / 4) = (rotr x 2 : Nat) := rot_eq x 1073741824 4 hx
theorem right_2 (x : Nat) (hx : x < 4294967296) (w : World) :
    Calls Tryd.prog 63 #[.int .u32 x, .int .i64 2] w fun e w' => e = .returned (.int .u32 (rotr x 2 : Nat)) ∧ w' = w := by
  have e : bits BinOp.and IntKind.u64 (IntKind.u64.wrap (-2)) 31 = 30 := by decide +kernel
  have hb := Lib.hid (rot_bits_2 x hx)
  go_enter Tryd.func63, Tryd.ntmps63
  go_wp2
  go_ret
  exact ⟨congrArg (fun z => Ending.returned (.int .u32 z)) hb.out, rfl⟩

theorem rot_bits_6 (x : Nat) (hx : x < 4294967296) : bits BinOp.or IntKind.u32 ((x : Int) * 67108864 % 4294967296) ((x : Int) / 64) = (rotr x 6 : Nat) := rot_eq x 67108864 64 hx
theorem right_6 (x : Nat) (hx : x < 4294967296) (w : World) :
    Calls Tryd.prog 63 #[.int .u32 x, .int .i64 6] w fun e w' => e = .returned (.int .u32 (rotr x 6 : Nat)) ∧ w' = w := by
  have e : bits BinOp.and IntKind.u64 (IntKind.u64.wrap (-6)) 31 = 26 := by decide +kernel
  have hb := Lib.hid (rot_bits_6 x hx)
  go_enter Tryd.func63, Tryd.ntmps63
  go_wp2
  go_ret
  exact ⟨congrArg (fun z => Ending.returned (.int .u32 z)) hb.out, rfl⟩

theorem rot_bits_7 (x : Nat) (hx : x < 4294967296) : bits BinOp.or IntKind.u32 ((x : Int) * 33554432 % 4294967296) ((x : Int) / 128) = (rotr x 7 : Nat) := rot_eq x 33554432 128 hx
theorem right_7 (x : Nat) (hx : x < 4294967296) (w : World) :
    Calls Tryd.prog 63 #[.int .u32 x, .int .i64 7] w fun e w' => e = .returned (.int .u32 (rotr x 7 : Nat)) ∧ w' = w := by
  have e : bits BinOp.and IntKind.u64 (IntKind.u64.wrap (-7)) 31 = 25 := by decide +kernel
  have hb := Lib.hid (rot_bits_7 x hx)
  go_enter Tryd.func63, Tryd.ntmps63
  go_wp2
  go_ret
  exact ⟨congrArg (fun z => Ending.returned (.int .u32 z)) hb.out, rfl⟩

theorem rot_bits_11 (x : Nat) (hx : x < 4294967296) : bits BinOp.or IntKind.u32 ((x : Int) * 2097152 % 4294967296) ((x : Int) / 2048) = (rotr x 11 : Nat) := rot_eq x 2097152 2048 hx
theorem right_11 (x : Nat) (hx : x < 4294967296) (w : World) :
    Calls Tryd.prog 63 #[.int .u32 x, .int .i64 11] w fun e w' => e = .returned (.int .u32 (rotr x 11 : Nat)) ∧ w' = w := by
  have e : bits BinOp.and IntKind.u64 (IntKind.u64.wrap (-11)) 31 = 21 := by decide +kernel
  have hb := Lib.hid (rot_bits_11 x hx)
  go_enter Tryd.func63, Tryd.ntmps63
  go_wp2
  go_ret
  exact ⟨congrArg (fun z => Ending.returned (.int .u32 z)) hb.out, rfl⟩

theorem rot_bits_13 (x : Nat) (hx : x < 4294967296) : bits BinOp.or IntKind.u32 ((x : Int) * 524288 % 4294967296) ((x : Int) / 8192) = (rotr x 13 : Nat) := rot_eq x 524288 8192 hx
theorem right_13 (x : Nat) (hx : x < 4294967296) (w : World) :
    Calls Tryd.prog 63 #[.int .u32 x, .int .i64 13] w fun e w' => e = .returned (.int .u32 (rotr x 13 : Nat)) ∧ w' = w := by
  have e : bits BinOp.and IntKind.u64 (IntKind.u64.wrap (-13)) 31 = 19 := by decide +kernel
  have hb := Lib.hid (rot_bits_13 x hx)
  go_enter Tryd.func63, Tryd.ntmps63
  go_wp2
  go_ret
  exact ⟨congrArg (fun z => Ending.returned (.int .u32 z)) hb.out, rfl⟩

theorem rot_bits_17 (x : Nat) (hx : x < 4294967296) : bits BinOp.or IntKind.u32 ((x : Int) * 32768 % 4294967296) ((x : Int) / 131072) = (rotr x 17 : Nat) := rot_eq x 32768 131072 hx
theorem right_17 (x : Nat) (hx : x < 4294967296) (w : World) :
    Calls Tryd.prog 63 #[.int .u32 x, .int .i64 17] w fun e w' => e = .returned (.int .u32 (rotr x 17 : Nat)) ∧ w' = w := by
  have e : bits BinOp.and IntKind.u64 (IntKind.u64.wrap (-17)) 31 = 15 := by decide +kernel
  have hb := Lib.hid (rot_bits_17 x hx)
  go_enter Tryd.func63, Tryd.ntmps63
  go_wp2
  go_ret
  exact ⟨congrArg (fun z => Ending.returned (.int .u32 z)) hb.out, rfl⟩

theorem rot_bits_18 (x : Nat) (hx : x < 4294967296) : bits BinOp.or IntKind.u32 ((x : Int) * 16384 % 4294967296) ((x : Int) / 262144) = (rotr x 18 : Nat) := rot_eq x 16384 262144 hx
theorem right_18 (x : Nat) (hx : x < 4294967296) (w : World) :
    Calls Tryd.prog 63 #[.int .u32 x, .int .i64 18] w fun e w' => e = .returned (.int .u32 (rotr x 18 : Nat)) ∧ w' = w := by
  have e : bits BinOp.and IntKind.u64 (IntKind.u64.wrap (-18)) 31 = 14 := by decide +kernel
  have hb := Lib.hid (rot_bits_18 x hx)
  go_enter Tryd.func63, Tryd.ntmps63
  go_wp2
  go_ret
  exact ⟨congrArg (fun z => Ending.returned (.int .u32 z)) hb.out, rfl⟩

theorem rot_bits_19 (x : Nat) (hx : x < 4294967296) : bits BinOp.or IntKind.u32 ((x : Int) * 8192 % 4294967296) ((x : Int) / 524288) = (rotr x 19 : Nat) := rot_eq x 8192 524288 hx
theorem right_19 (x : Nat) (hx : x < 4294967296) (w : World) :
    Calls Tryd.prog 63 #[.int .u32 x, .int .i64 19] w fun e w' => e = .returned (.int .u32 (rotr x 19 : Nat)) ∧ w' = w := by
  have e : bits BinOp.and IntKind.u64 (IntKind.u64.wrap (-19)) 31 = 13 := by decide +kernel
  have hb := Lib.hid (rot_bits_19 x hx)
  go_enter Tryd.func63, Tryd.ntmps63
  go_wp2
  go_ret
  exact ⟨congrArg (fun z => Ending.returned (.int .u32 z)) hb.out, rfl⟩

theorem rot_bits_22 (x : Nat) (hx : x < 4294967296) : bits BinOp.or IntKind.u32 ((x : Int) * 1024 % 4294967296) ((x : Int) / 4194304) = (rotr x 22 : Nat) := rot_eq x 1024 4194304 hx
theorem right_22 (x : Nat) (hx : x < 4294967296) (w : World) :
    Calls Tryd.prog 63 #[.int .u32 x, .int .i64 22] w fun e w' => e = .returned (.int .u32 (rotr x 22 : Nat)) ∧ w' = w := by
  have e : bits BinOp.and IntKind.u64 (IntKind.u64.wrap (-22)) 31 = 10 := by decide +kernel
  have hb := Lib.hid (rot_bits_22 x hx)
  go_enter Tryd.func63, Tryd.ntmps63
  go_wp2
  go_ret
  exact ⟨congrArg (fun z => Ending.returned (.int .u32 z)) hb.out, rfl⟩

theorem rot_bits_25 (x : Nat) (hx : x < 4294967296) : bits BinOp.or IntKind.u32 ((x : Int) * 128 % 4294967296) ((x : Int) / 33554432) = (rotr x 25 : Nat) := rot_eq x 128 33554432 hx
theorem right_25 (x : Nat) (hx : x < 4294967296) (w : World) :
    Calls Tryd.prog 63 #[.int .u32 x, .int .i64 25] w fun e w' => e = .returned (.int .u32 (rotr x 25 : Nat)) ∧ w' = w := by
  have e : bits BinOp.and IntKind.u64 (IntKind.u64.wrap (-25)) 31 = 7 := by decide +kernel
  have hb := Lib.hid (rot_bits_25 x hx)
  go_enter Tryd.func63, Tryd.ntmps63
  go_wp2
  go_ret
  exact ⟨congrArg (fun z => Ending.returned (.int .u32 z)) hb.out, rfl⟩

end Go.Proofs.YtefobboakikpbaaDoor
