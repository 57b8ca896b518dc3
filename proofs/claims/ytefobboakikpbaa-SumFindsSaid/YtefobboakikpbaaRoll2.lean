/- Contracts of the reference's Weak, and of the laws' little functions beside the roller. -/
import Derived.Test.YtefobboakikpbaaRoll1
import Derived.Lib.SlBytesConst
import Derived.Laws.IdiomStrings
namespace Go.Proofs.Ytefobboakikpbaa
open Go.RowKit
set_option linter.unusedVariables false
set_option linter.unusedSimpArgs false

theorem lowTo_bound (l : List UInt8) (k : Nat) : 0 ≤ lowTo l k ∧ lowTo l k ≤ 255 * k := by
  induction k with
  | zero => simp [lowTo]
  | succ k ih =>
    have := (l.getD k 0).toNat_lt
    simp only [lowTo]; omega
theorem prod_bound {n : Int} {b : Int} {N : Int} (h0 : 0 ≤ n) (h1 : n ≤ N) (hb0 : 0 ≤ b) (hb1 : b ≤ 255) : 0 ≤ n * b ∧ n * b ≤ 255 * N := by
  refine ⟨Int.mul_nonneg h0 hb0, ?_⟩
  have h2 := Int.mul_le_mul_of_nonneg_left hb1 h0
  omega
theorem highTo_bound (l : List UInt8) (k : Nat) (hk : k ≤ l.length) : 0 ≤ highTo l k ∧ highTo l k ≤ 255 * l.length * k := by
  induction k with
  | zero => simp [highTo]
  | succ k ih =>
    have ih := ih (by omega)
    have hb := (l.getD k 0).toNat_lt
    have hp := prod_bound (n := (l.length : Int) - k) (b := (l.getD k 0).toNat) (N := l.length) (by omega) (by omega) (by omega) (by omega)
    simp only [highTo]
    refine ⟨by omega, ?_⟩
    have e : (255 : Int) * l.length * ((k + 1 : Nat) : Int) = 255 * l.length * k + 255 * l.length := by
      rw [show ((k + 1 : Nat) : Int) = k + 1 from rfl, Int.mul_add, Int.mul_one]
    omega

/-- The weak sum of bytes. -/
def weakSum (l : List UInt8) : Int := weakOf (lowTo l l.length) (highTo l l.length)
theorem weakOf_wrap (a b : Int) : weakOf (a % 4294967296) (b % 4294967296) = weakOf a b := by unfold weakOf; omega

set_option maxHeartbeats 1000000 in
theorem refWeak_any (w : World) (v : Value) (l : List UInt8) (hs : Sl w 1 v l.length (bytes l)) (hn : l.length ≤ 3000) :
    Calls Try.prog 8 #[v] w fun e w' => e = .returned (.int .u32 (weakSum l)) ∧ w = w' := by
  obtain ⟨a, c, rfl, hl, hm, hc⟩ := hs
  go_enter Try.func8, Try.ntmps8
  go_wp2
  go_loop [3, 4, 5] (fun x y i => ∃ k : Nat, k ≤ l.length ∧ i = .int .i64 k ∧ x = .int .i64 (lowTo l k) ∧ y = .int .i64 (highTo l k)) (fun _ _ i => l.length - (intOf i).toNat)
  case atStart => exact ⟨0, Nat.zero_le _, rfl, rfl, rfl⟩
  case round =>
    obtain ⟨k, hk, rfl, rfl, rfl⟩ := hrel
    obtain ⟨hb1, hb2⟩ := lowTo_bound l k
    obtain ⟨hb3, hb4⟩ := highTo_bound l k hk
    have hb5 : highTo l k ≤ 2295000000 := by
      have h1 : (255 : Int) * l.length * k ≤ 255 * l.length * 3000 := Int.mul_le_mul_of_nonneg_left (by omega) (by omega)
      omega
    clear hb4
    by_cases hlt : k < l.length
    · have hne : bytes l ≠ [] := by intro h; have := bytes_length l; rw [h] at this; simp at this; omega
      obtain ⟨ad, rfl, hc2⟩ := hc hne
      have hcell := hc2 k _ (bytes_get l k hlt)
      have hu := l[k].toNat_lt
      obtain ⟨hp1, hp2⟩ := prod_bound (n := (l.length : Int) - k) (b := l[k].toNat) (N := 3000) (by omega) (by omega) (by omega) (by omega)
      have e1 := Lib.hid (lowTo_succ l k hlt)
      have e2 := Lib.hid (highTo_succ l k hlt)
      clear hc hc2 hl hne
      go_wp2
      go_round
      case rel => exact ⟨k + 1, hlt, by go_num, by rw [e1.out], by rw [e2.out]⟩
      case measure => simp [intOf]; omega
    · obtain rfl : k = l.length := by omega
      clear hc hl
      go_wp2
      go_ret
      refine ⟨?_, rfl⟩
      show Ending.returned (.int .u32 _) = _
      unfold weakSum weakOf
      rfl

set_option maxHeartbeats 1000000 in
theorem weak_any (w : World) : Calls Try.prog 6 #[] w fun e w' => e = .returned (.bool true) ∧ Below w.heap.size w w' := by
  have kc := fun (w : World) (C : Array Value) (n c : Nat) => Lib.run_convert_bytes_const (P := Try.prog) w 22 5 C n c Try.underlying22 Try.underlying5
  go_enter Try.func6, Try.ntmps6
  go_wp2_with fail
  refine (newRoller_any _ _ [97, 98, 99] ?hs (by simp)).mono ?_
  case hs => exact Sl.made w 5 1 3 3 _ _ _ rfl rfl (by omega)
  rintro e w1 ⟨p, v', rfl, hp, hv, hR, hb1⟩
  have e1 : IntKind.u32.wrap (lowTo [97, 98, 99] [(97 : UInt8), 98, 99].length) = 294 := by decide +kernel
  have e2 : IntKind.u32.wrap (highTo [97, 98, 99] [(97 : UInt8), 98, 99].length) = 586 := by decide +kernel
  rw [e1, e2] at hR
  obtain ⟨av, cv, rfl⟩ := hR.2.1.slice
  go_wp2_with fail
  refine (rollerSum_any _ p _ _ _ _ _ hR (by decide) (by decide) (by decide) (by decide)).mono ?_
  rintro e w2 ⟨rfl, ⟨n2, rfl⟩, hR2⟩
  have e3 : weakOf 294 586 = 38404390 := by decide +kernel
  rw [e3]
  go_wp2_with fail
  refine (rollerNext_any _ p av cv [97, 98, 99] 0 294 586 100 100 (by decide) hR2 (by decide) (by decide) (by decide) (by decide) (by decide)).mono ?_
  rintro e w3 ⟨low', high', hl', hh', rfl, hR3, hu3⟩
  have e4 : low' = 297 := by rw [hl']; decide +kernel
  have e5 : high' = 592 := by rw [hh', e4]; decide +kernel
  rw [e4, e5] at hR3 ⊢
  clear hl' hh' e4 e5
  have e6 : weakOf 297 592 = 38797609 := by decide +kernel
  rw [e6]
  go_wp2_with fail
  refine (rollerSum_any _ p _ _ _ _ _ hR3 (by decide) (by decide) (by decide) (by decide)).mono ?_
  rintro e w4 ⟨rfl, ⟨n4, rfl⟩, hR4⟩
  rw [e6]
  go_wp2
  go_ret
  refine ⟨rfl, ?_⟩
  simp at hp
  have h1 := ((Below.refl w.heap.size w).alloc (Nat.le_refl _) _).trans (hb1.mono (by simp))
  refine (h1.upd (Nat.le_refl _) (Upd.drewN (Upd.refl (fun k => w.heap.size ≤ k) _) n2) (fun _ h => h)).upd (Nat.le_refl _) (hu3.drewN n4) ?_
  intro i hi
  rcases hi with rfl | hi
  · omega
  · have := hv i hi
    simp at this; omega
end Go.Proofs.Ytefobboakikpbaa
