/- CRC-32 as a plain function, and the contract of sum.CRC. -/
import Derived.Test.YtefobboakikpbaaDoorProg
import Derived.Test.YtefobboakikpbaaDoorBase
import Derived.Test.YtefobboakikpbaaDoorShaP
namespace Go.Proofs.YtefobboakikpbaaDoor
open Go.RowKit
set_option linter.unusedVariables false
set_option linter.unusedSimpArgs false

def foursL : List Nat := [0x00000000, 0x1db71064, 0x3b6e20c8, 0x26d930ac, 0x76dc4190, 0x6b6b51f4, 0x4db26158, 0x5005713c, 0xedb88320, 0xf00f9344, 0xd6d6a3e8, 0xcb61b38c, 0x9b64c2b0, 0x86d3d2d4, 0xa00ae278, 0xbdbdf21c]
def crcMix (y : Nat) : Nat := (y / 16) ^^^ foursL.getD (y % 16) 0
def crcByte (x c : Nat) : Nat := crcMix (crcMix (x ^^^ c))
/-- The state behind some bytes. -/
def crcFrom (s : Nat) (l : List UInt8) : Nat := l.foldl (fun x c => crcByte x c.toNat) s
def crc (l : List UInt8) : Nat := 4294967295 - crcFrom 4294967295 l
theorem fours_lt (i : Nat) : foursL.getD i 0 < 4294967296 := by
  rcases Nat.lt_or_ge i 16 with h | h
  · have : ∀ j, j < 16 → foursL.getD j 0 < 4294967296 := by decide +kernel
    exact this i h
  · rw [List.getD_eq_getElem?_getD, List.getElem?_eq_none (by exact h)]; decide
theorem crcMix_lt (y : Nat) (h : y < 4294967296) : crcMix y < 4294967296 := lt32_xor (lt32_div h) (fours_lt _)
theorem crcByte_lt (x c : Nat) (h : x < 4294967296) (hc : c < 4294967296) : crcByte x c < 4294967296 := crcMix_lt _ (crcMix_lt _ (lt32_xor h hc))
theorem crcFrom_lt (s : Nat) (l : List UInt8) (h : s < 4294967296) : crcFrom s l < 4294967296 := by
  induction l generalizing s with
  | nil => exact h
  | cons c l ih => exact ih _ (crcByte_lt _ _ h (Nat.lt_of_lt_of_le c.toNat_lt (by decide)))
theorem crcFrom_append (s : Nat) (k l : List UInt8) : crcFrom s (k ++ l) = crcFrom (crcFrom s k) l := List.foldl_append
theorem crcFrom_take (s : Nat) (l : List UInt8) (k : Nat) (h : k < l.length) : crcFrom s (l.take (k + 1)) = crcByte (crcFrom s (l.take k)) (l.getD k 0).toNat := by
  rw [List.take_succ_eq_append_getElem h, crcFrom_append, List.getD_eq_getElem?_getD, List.getElem?_eq_getElem h]; rfl
theorem crc_lt (l : List UInt8) : crc l < 4294967296 := by unfold crc; omega

theorem xor32_step (a b : Nat) (ha : a < 4294967296) (hb : b < 4294967296) : ∃ t : Nat, t = a ^^^ b ∧ t < 4294967296 ∧ bits BinOp.xor IntKind.u32 (a : Int) (b : Int) = (t : Int) := ⟨_, rfl, lt32_xor ha hb, u32_xor_nat _ _ ha hb⟩
theorem low4_step (a : Nat) (ha : a < 4294967296) : bits BinOp.and IntKind.u32 (a : Int) 15 = ((a % 16 : Nat) : Int) := by
  rw [show (15 : Int) = ((15 : Nat) : Int) from rfl, u32_and_nat _ _ ha (by decide), show (15 : Nat) = 2 ^ 4 - 1 from rfl, Nat.and_two_pow_sub_one_eq_mod]
theorem not32_step (e : Nat) (he : e < 4294967296) : bits BinOp.xor IntKind.u32 IntKind.u32.max (e : Int) = ((4294967295 - e : Nat) : Int) := by
  have hm : IntKind.u32.max = ((4294967295 : Nat) : Int) := by decide
  rw [hm, u32_xor_nat 4294967295 e (by decide) he]
  congr 1
  apply Nat.eq_of_testBit_eq
  intro i
  have h2 : 4294967295 - e = 2 ^ 32 - (e + 1) := by omega
  rw [h2, Nat.testBit_two_pow_sub_succ (show e < 2 ^ 32 from he), Nat.testBit_xor, show (4294967295 : Nat) = 2 ^ 32 - 1 from rfl, Nat.testBit_two_pow_sub_one]
  by_cases hi : i < 32
  · simp [hi]
  · have : e.testBit i = false := Nat.testBit_lt_two_pow (Nat.lt_of_lt_of_le (show e < 2 ^ 32 from he) (Nat.pow_le_pow_right (by decide) (by omega)))
    simp [hi, this]

def FoursAt (w : World) : Prop := ∀ i, i < 16 → w.cell? ⟨1, i, none⟩ = some (.int .u32 (foursL.getD i 0 : Nat))
theorem FoursAt.kept {S : Nat → Prop} {w w' : World} (h : FoursAt w) (hu : Upd S w w') (hn : ¬ S 1) : FoursAt w' := fun i hi => hu.cell (h i hi) hn
theorem FoursAt.below {w w' : World} (h : FoursAt w) (hb : Below w.heap.size w w') : FoursAt w' := h.kept (Upd.below hb fun _ => False) id
theorem FoursAt.lt {w : World} (h : FoursAt w) : 1 < w.heap.size := block_lt_of_cell (h 0 (by decide))

set_option maxHeartbeats 1000000 in
theorem crc_same (w : World) (hf : FoursAt w) (a : Option Addr) (c : Nat) (l : List UInt8) (hl : Sl w 1 (.slice a l.length c) l.length (bytes l)) :
    Calls Tryd.prog 31 #[.slice a l.length c] w fun e w' => e = .returned (.int .u32 (crc l : Nat)) ∧ w' = w := by
  have hm : l.length ≤ 9223372036854775807 := by obtain ⟨_, _, _, _, h, _⟩ := hl; exact h
  have Hf := Lib.hid hf
  have Hl := Lib.hid hl
  clear hf hl
  go_enter Tryd.func31, Tryd.ntmps31
  go_wp2_with fail
  go_loopw [3, 8] (fun x i wr => ∃ k : Nat, k ≤ l.length ∧ i = .int .i64 k ∧ x = .int .u32 (crcFrom 4294967295 (l.take k) : Nat) ∧ wr = w) (fun _ i _ => l.length - (intOf i).toNat)
  case atStart => exact ⟨0, Nat.zero_le _, rfl, rfl, rfl⟩
  case round =>
    obtain ⟨k, hk, rfl, rfl, rfl⟩ := hrel
    have hs32 := crcFrom_lt 4294967295 (l.take k) (by decide)
    obtain ⟨x, hx⟩ : ∃ x, x = crcFrom 4294967295 (l.take k) := ⟨_, rfl⟩
    rw [← hx] at hs32 ⊢
    by_cases hlt : k < l.length
    · have hsl := Hl.out
      obtain ⟨g, off, rfl, _, hcell⟩ := hsl.open_ (by rw [bytes_length]; omega)
      have f0 := hcell k _ (bytes_getD l k hlt)
      have hfa := Hf.out
      obtain ⟨b, hb⟩ : ∃ b, b = (l.getD k 0).toNat := ⟨_, rfl⟩
      have hb8 : b < 256 := by rw [hb]; exact UInt8.toNat_lt _
      rw [← hb] at f0
      obtain ⟨y1, d1, l1, q1⟩ := xor32_step x b hs32 (by omega)
      have q2 := low4_step y1 l1
      obtain ⟨m1, dm1⟩ : ∃ m, m = y1 % 16 := ⟨_, rfl⟩
      have hm1 : m1 < 16 := by rw [dm1]; exact Nat.mod_lt _ (by decide)
      rw [← dm1] at q2
      have f1 := hfa m1 hm1
      obtain ⟨t1, dt1⟩ : ∃ t, t = foursL.getD m1 0 := ⟨_, rfl⟩
      have ht1 : t1 < 4294967296 := by rw [dt1]; exact fours_lt _
      rw [← dt1] at f1
      obtain ⟨z1, dz1, lz1, q3⟩ := xor32_step (y1 / 16) t1 (lt32_div l1) ht1
      have q4 := low4_step z1 lz1
      obtain ⟨m2, dm2⟩ : ∃ m, m = z1 % 16 := ⟨_, rfl⟩
      have hm2 : m2 < 16 := by rw [dm2]; exact Nat.mod_lt _ (by decide)
      rw [← dm2] at q4
      have f2 := hfa m2 hm2
      obtain ⟨t2, dt2⟩ : ∃ t, t = foursL.getD m2 0 := ⟨_, rfl⟩
      have ht2 : t2 < 4294967296 := by rw [dt2]; exact fours_lt _
      rw [← dt2] at f2
      obtain ⟨z2, dz2, lz2, q5⟩ := xor32_step (z1 / 16) t2 (lt32_div lz1) ht2
      have hz : z2 = crcFrom 4294967295 (l.take (k + 1)) := by
        rw [crcFrom_take _ _ _ hlt, ← hx, ← hb]
        unfold crcByte crcMix
        rw [← d1, ← dm1, ← dt1, ← dz1, ← dm2, ← dt2, ← dz2]
      have Hz := Lib.hid hz
      rw [show ((y1 / 16 : Nat) : Int) = (y1 : Int) / 16 from rfl] at q3
      rw [show ((z1 / 16 : Nat) : Int) = (z1 : Int) / 16 from rfl] at q5
      have e1 : ((m1 : Int)).toNat = m1 := by omega
      have e2 : ((m2 : Int)).toNat = m2 := by omega
      clear hcell hfa hb d1 dm1 dt1 dz1 dm2 dt2 dz2 hz hx hsl
      go_wp2
      go_roundw
      case rel => exact ⟨k + 1, hlt, by go_num, by rw [← Hz.out], trivial⟩
      case measure => simp [intOf]; omega
    · have hk' : k = l.length := by omega
      have q1 := not32_step x hs32
      have hx2 : crc l = 4294967295 - x := by rw [hx, hk', List.take_length]; rfl
      have Hx := Lib.hid hx2
      clear hx hx2
      go_wp2
      go_ret
      refine ⟨?_, rfl⟩
      rw [Hx.out]
      first | rfl | (show Ending.returned (.int .u32 _) = _; rw [q1])
theorem crc_any (w : World) (hf : FoursAt w) (a : Option Addr) (c : Nat) (l : List UInt8) (hl : Sl w 1 (.slice a l.length c) l.length (bytes l)) :
    Calls Tryd.prog 31 #[.slice a l.length c] w fun e w' => e = .returned (.int .u32 (crc l : Nat)) ∧ Below w.heap.size w w' :=
  (crc_same w hf a c l hl).mono fun _ _ ⟨he, hw⟩ => ⟨he, hw ▸ Below.refl _ _⟩
end Go.Proofs.YtefobboakikpbaaDoor
