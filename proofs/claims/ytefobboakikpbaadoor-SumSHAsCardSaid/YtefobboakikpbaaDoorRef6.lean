/- The reference's CRC and Digest. -/
import Derived.Test.YtefobboakikpbaaDoorRef5
import Derived.Test.YtefobboakikpbaaDoorCrcLaw
import Derived.Test.YtefobboakikpbaaDoorDig
namespace Go.Proofs.YtefobboakikpbaaDoor
open Go.RowKit
set_option linter.unusedVariables false
set_option linter.unusedSimpArgs false

theorem bitsOut_lt (k x : Nat) (h : x < 4294967296) : bitsOut k x < 4294967296 := by
  induction k generalizing x with
  | zero => exact h
  | succ k ih => exact ih _ (bitStep_lt x h)
theorem bitsOut_succ (k x : Nat) : bitsOut (k + 1) x = bitStep (bitsOut k x) := by
  rw [bitsOut_add]; rfl

set_option maxHeartbeats 2000000 in
theorem refCRC_any (w : World) (a : Option Addr) (c n : Nat) (l : List UInt8) (hl : Sl w 1 (.slice a n c) n (bytes l)) (hn : l.length = n) :
    Calls Tryd.prog 32 #[.slice a n c] w fun e w' => e = .returned (.int .u32 (crc l : Nat)) ∧ w' = w := by
  have hm : n ≤ 9223372036854775807 := by obtain ⟨_, _, _, _, h, _⟩ := hl; exact h
  have Hl := Lib.hid hl
  have Hn := Lib.hid hn
  clear hl hn
  go_enter Tryd.func32, Tryd.ntmps32
  go_wp2_with fail
  go_loopw [3, 4] (fun x i wr => ∃ k : Nat, k ≤ n ∧ i = .int .i64 k ∧ x = .int .u64 (crcFrom 4294967295 (l.take k) : Nat) ∧ wr = w) (fun _ i _ => n - (intOf i).toNat)
  case atStart => exact ⟨0, Nat.zero_le _, rfl, rfl, rfl⟩
  case round =>
    obtain ⟨k, hk, rfl, rfl, rfl⟩ := hrel
    have hs32 := crcFrom_lt 4294967295 (l.take k) (by decide)
    obtain ⟨x, hx⟩ : ∃ x, x = crcFrom 4294967295 (l.take k) := ⟨_, rfl⟩
    rw [← hx] at hs32 ⊢
    by_cases hlt : k < n
    · obtain ⟨g, off, rfl, _, hcell⟩ := Hl.out.open_ (by rw [bytes_length, Hn.out]; omega)
      have f0 := hcell k _ (bytes_getD l k (by rw [Hn.out]; exact hlt))
      obtain ⟨b, hb⟩ : ∃ b, b = (l.getD k 0).toNat := ⟨_, rfl⟩
      have hb8 : b < 256 := by rw [hb]; exact UInt8.toNat_lt _
      rw [← hb] at f0
      obtain ⟨y1, d1, l1, q1⟩ : ∃ t : Nat, t = x ^^^ b ∧ t < 4294967296 ∧ bits BinOp.xor IntKind.u64 (x : Int) (b : Int) = (t : Int) := ⟨_, rfl, lt32_xor hs32 (by omega), u64_xor_nat' _ _ (by omega) (by omega)⟩
      have hnx : crcFrom 4294967295 (l.take (k + 1)) = bitsOut 8 y1 := by
        rw [crcFrom_take _ _ _ (by rw [Hn.out]; exact hlt), ← hx, ← hb, crcByte_bits, ← d1]
      have Hnx := Lib.hid hnx
      have i0 : (0 : Int) ≤ (k : Int) := by omega
      have i1 : (k : Int) < (n : Int) := by omega
      clear hcell hb d1 hx hnx
      go_wp2_with fail
      go_loopw [3, 5] (fun x i wq => ∃ q : Nat, q ≤ 8 ∧ i = .int .i64 q ∧ x = .int .u64 (bitsOut q y1 : Nat) ∧ wq = wr) (fun _ i _ => 8 - (intOf i).toNat)
      case atStart => exact ⟨0, by omega, rfl, rfl, rfl⟩
      case round =>
        rename World => wq
        obtain ⟨q, hq, rfl, rfl, hwq⟩ := hrel
        obtain rfl := hwq.symm
        have lz := bitsOut_lt q y1 l1
        have hsucc := bitsOut_succ q y1
        obtain ⟨z, hz⟩ : ∃ z, z = bitsOut q y1 := ⟨_, rfl⟩
        rw [← hz] at lz hsucc ⊢
        by_cases hq8 : q < 8
        · by_cases hodd : z % 2 = 1
          · have tb : ((z : Int).tmod 2 == 1) = true := by
              rw [beq_iff_eq]; show (((z % 2 : Nat)) : Int) = 1; rw [hodd]; rfl
            have tb2 : (((z : Int) % 2) == 1) = true := by rw [beq_iff_eq]; omega
            obtain ⟨v, hv, lv, qv⟩ : ∃ t : Nat, t = (z / 2) ^^^ 3988292384 ∧ t < 4294967296 ∧ bits BinOp.xor IntKind.u64 ((z / 2 : Nat) : Int) ((3988292384 : Nat) : Int) = (t : Int) := ⟨_, rfl, lt32_xor (by omega) (by decide), u64_xor_nat' _ _ (by omega) (by decide)⟩
            have qv2 : bits BinOp.xor IntKind.u64 ((z : Int) / 2) 3988292384 = (v : Int) := qv
            have hvn : bitsOut (q + 1) y1 = v := by rw [hsucc, hv]; unfold bitStep; rw [if_pos hodd]
            have Hvn := Lib.hid hvn
            clear qv hv hvn hsucc hz hodd
            go_wp2
            go_roundw
            case rel => exact ⟨q + 1, by omega, by go_num, by rw [Hvn.out], trivial⟩
            case measure => simp [intOf]; omega
          · have tb : ((z : Int).tmod 2 == 1) = false := by
              rw [beq_eq_false_iff_ne]; show (((z % 2 : Nat)) : Int) ≠ 1; omega
            have tb2 : (((z : Int) % 2) == 1) = false := by rw [beq_eq_false_iff_ne]; omega
            have hvn : bitsOut (q + 1) y1 = z / 2 := by rw [hsucc]; unfold bitStep; rw [if_neg hodd, Nat.xor_zero]
            have Hvn := Lib.hid hvn
            clear hvn hsucc hz hodd
            go_wp2
            go_roundw
            case rel => exact ⟨q + 1, by omega, by go_num, by rw [Hvn.out]; rfl, trivial⟩
            case measure => simp [intOf]; omega
        · have hzz : z = crcFrom 4294967295 (l.take (k + 1)) := by rw [Hnx.out, hz, show q = 8 by omega]
          have Hzz := Lib.hid hzz
          clear hzz hz hsucc
          go_wp2
          go_roundw
          case rel => exact ⟨k + 1, hlt, by go_num, by rw [← Hzz.out], trivial⟩
          case measure => simp [intOf]; omega
    · have hk' : k = n := by omega
      have hx2 : crc l = 4294967295 - x := by rw [hx, hk', List.take_of_length_le (by rw [Hn.out]; exact Nat.le_refl _)]; rfl
      have Hx := Lib.hid hx2
      have e1 : (4294967295 : Int) - (x : Int) = ((4294967295 - x : Nat) : Int) := by omega
      have e2 : IntKind.u64.wrap (((4294967295 - x : Nat)) : Int) = ((4294967295 - x : Nat) : Int) := u64_in' _ (by omega)
      clear hx hx2
      go_wp2
      go_ret
      refine ⟨?_, rfl⟩
      rw [Hx.out]
      first | rfl | skip
set_option maxHeartbeats 4000000 in
set_option maxRecDepth 100000 in
theorem refDigest_any (w : World) (a : Option Addr) (c n : Nat) (l : List UInt8) (hl : Sl w 1 (.slice a n c) n (bytes l)) (hn : l.length = n) (hlc : n ≤ c) (hlen : n ≤ 70368744177664) :
    Calls Tryd.prog 30 #[.slice a n c] w fun e w' => e = .returned (.agg (bytes (digest l)).toArray) ∧ Below w.heap.size w w' := by
  obtain ⟨i0, hi, hz0, hz1, hz2⟩ := info_parts info_byte
  obtain ⟨Z, hZ⟩ : ∃ Z : Array Value, Z = Array.replicate 32 (.int .u8 0) := ⟨_, rfl⟩
  have HZ := Lib.hid hZ
  have Hl := Lib.hid hl
  have Hn := Lib.hid hn
  clear hl hn hZ
  go_enter Tryd.func30, Tryd.ntmps30
  go_wp2_with fail
  have hz1 := heap_alloc_new w (.cells #[.int .u8 0, .int .u8 0, .int .u8 0, .int .u8 0, .int .u8 0, .int .u8 0, .int .u8 0, .int .u8 0, .int .u8 0, .int .u8 0, .int .u8 0, .int .u8 0, .int .u8 0, .int .u8 0, .int .u8 0, .int .u8 0, .int .u8 0, .int .u8 0, .int .u8 0, .int .u8 0, .int .u8 0, .int .u8 0, .int .u8 0, .int .u8 0, .int .u8 0, .int .u8 0, .int .u8 0, .int .u8 0, .int .u8 0, .int .u8 0, .int .u8 0, .int .u8 0] 26)
  have hb1 : Below w.heap.size w (w.alloc (.cells #[.int .u8 0, .int .u8 0, .int .u8 0, .int .u8 0, .int .u8 0, .int .u8 0, .int .u8 0, .int .u8 0, .int .u8 0, .int .u8 0, .int .u8 0, .int .u8 0, .int .u8 0, .int .u8 0, .int .u8 0, .int .u8 0, .int .u8 0, .int .u8 0, .int .u8 0, .int .u8 0, .int .u8 0, .int .u8 0, .int .u8 0, .int .u8 0, .int .u8 0, .int .u8 0, .int .u8 0, .int .u8 0, .int .u8 0, .int .u8 0, .int .u8 0, .int .u8 0] 26)) := on_alloc (Below.refl _ _) _
  have e32 : #[Value.int .u8 0, .int .u8 0, .int .u8 0, .int .u8 0, .int .u8 0, .int .u8 0, .int .u8 0, .int .u8 0, .int .u8 0, .int .u8 0, .int .u8 0, .int .u8 0, .int .u8 0, .int .u8 0, .int .u8 0, .int .u8 0, .int .u8 0, .int .u8 0, .int .u8 0, .int .u8 0, .int .u8 0, .int .u8 0, .int .u8 0, .int .u8 0, .int .u8 0, .int .u8 0, .int .u8 0, .int .u8 0, .int .u8 0, .int .u8 0, .int .u8 0, .int .u8 0] = Z := by rw [HZ.out]; rfl
  generalize w.alloc (.cells #[.int .u8 0, .int .u8 0, .int .u8 0, .int .u8 0, .int .u8 0, .int .u8 0, .int .u8 0, .int .u8 0, .int .u8 0, .int .u8 0, .int .u8 0, .int .u8 0, .int .u8 0, .int .u8 0, .int .u8 0, .int .u8 0, .int .u8 0, .int .u8 0, .int .u8 0, .int .u8 0, .int .u8 0, .int .u8 0, .int .u8 0, .int .u8 0, .int .u8 0, .int .u8 0, .int .u8 0, .int .u8 0, .int .u8 0, .int .u8 0, .int .u8 0, .int .u8 0] 26) = w1 at hz1 hb1 ⊢
  rw [e32] at hz1
  have Hl := Lib.hid (Hl.out.below hb1)
  have Hz1 := Lib.hid hz1
  have Hb1 := Lib.hid hb1
  clear hz1 hb1 e32
  go_loopw [3, 4] (fun v i wr => ∃ (k m r : Nat) (a5 : Option Addr) (c5 : Nat), m < n + 512 ∧ i = .int .i64 m ∧ m = 512 * k ∧ v = .slice a5 r c5 ∧ r = 32 * k ∧ Grows w1 wr (.slice a5 r c5) r (shasTo l k) ∧ Below w1.heap.size w1 wr) (fun _ i _ => n + 512 - (intOf i).toNat)
  case atStart => exact ⟨0, 0, 0, none, 0, by omega, rfl, rfl, rfl, rfl, ⟨Own.nil _ _ _, by simp [Value.ownBlock], Below.refl _ _⟩, Below.refl _ _⟩
  case round =>
    obtain ⟨k, m, r, a5, c5, hml, rfl, hm, rfl, hr, hg, hbr⟩ := hrel
    have hrb : r ≤ n + 64 := by omega
    have Hm := Lib.hid hm
    have Hr := Lib.hid hr
    have Hg := Lib.hid hg
    have Hbr := Lib.hid hbr
    clear hm hr hg hbr
    by_cases hlt : m < n
    · by_cases h5 : m + 512 ≤ n
      ·
          obtain ⟨q, hq⟩ : ∃ q, q = (m + 512) - m := ⟨_, rfl⟩
          obtain ⟨a4, hs4, _, _, hsl4, _⟩ := (Hl.out.below Hbr.out).cut Tryd.underlying24 size_byte m ((m + 512)) (by omega) (by omega) hlc
          have hcut := fun w => hs4 w m ((m : Int) + 512) rfl (by omega)
          obtain ⟨cm, hcm⟩ : ∃ cm, cm = c - m := ⟨_, rfl⟩
          rw [← hcm] at hcut hsl4
          rw [← hq] at hcut hsl4
          simp only [Nat.mul_one] at hsl4
          obtain ⟨y, hy⟩ : ∃ y, y = (l.drop m).take q := ⟨_, rfl⟩
          have hyl : y.length = q := by rw [hy, List.length_take, List.length_drop, Hn.out]; omega
          have e4 : ((bytes l).drop m).take q = bytes y := by rw [hy]; simp [bytes, List.map_drop, List.map_take]
          rw [e4] at hsl4
          have hq5 : q ≤ 512 := by omega
          have hy5 : y = (l.drop (512 * k)).take 512 := by rw [hy, Hm.out]; congr 1; omega
          have Hsl4 := Lib.hid hsl4
          have Hyl := Lib.hid hyl
          have Hy5 := Lib.hid hy5
          have z0 : (0 : Int) ≤ (m : Int) := by omega
          clear hs4 hsl4 e4 hyl hy5 hy hq hcm
          go_wp2_with fail
          refine (refSHA_any wr a4 cm q y Hsl4.out Hyl.out (by omega)).mono ?_
          rintro e w8 ⟨rfl, hb8⟩
          have hX : (sha y).length = 32 := rfl
          obtain ⟨hCs, hCo⟩ := sum_cells (sha y) rfl
          obtain ⟨X, hXX⟩ : ∃ X, X = sha y := ⟨_, rfl⟩
          rw [← hXX] at hX hCs hCo ⊢
          obtain ⟨C2, hC2⟩ : ∃ C, C = (bytes X).toArray := ⟨_, rfl⟩
          rw [← hC2] at hCs hCo ⊢
          have HX := Lib.hid hX
          have HXX := Lib.hid hXX
          have HC2 := Lib.hid hC2
          have HCs := Lib.hid hCs
          have HCo := Lib.hid hCo
          have Hb8 := Lib.hid hb8
          clear hb8 hX hXX hC2 hCs hCo hcut
          go_wp2_with (refine wpList_store_fresh rfl 26 _ _ rfl C2 rfl rfl (by rw [HCs.out]; kernel_rfl) (by rw [HCs.out]; rfl) HCo.out ?_)
          intro w9 hs9 hr9 hb9
          have hb89 : Below wr.heap.size wr w9 := below_on Hb8.out hb9
          have Hb89 := Lib.hid hb89
          have hsl9 : Sl w9 1 (.slice (some ⟨w8.heap.size, 0, none⟩) 32 32) 32 (bytes X) := sl_row hr9 X (by rw [HC2.out]) 32 32 HX.out (by decide)
          have Hsl9 := Lib.hid hsl9
          clear hs9 hr9 hb9 hb89 hsl9
          go_wp2_with (at_builtin; refine wpList_append_any rfl _ _ 24 rfl 5 i0 (.int .u8 0) 1 1 Tryd.underlying24 hi hz0 hz1 hz2 rfl (by decide) (.slice a5 r c5) r (bytes (shasTo l k)) (.slice (some ⟨w8.heap.size, 0, none⟩) 32 32) 32 (bytes X) rfl rfl (Hg.out.1.kept (Upd.below Hb89.out fun _ => False) (fun _ _ => id)) Hsl9.out (bytes_one _) (by omega) (by omega) ?_)
          intro a6 c6 w6 hown6 hgr6 hb6
          have hu6 := (Hbr.out.trans (Hb89.out.mono Hbr.out.size)).upd (Nat.le_refl _) ((Upd.refl (fun b => w1.heap.size ≤ b) _).grown hgr6 (fun b hb _ => Hg.out.2.1 b hb)) (fun _ h => h)
          have hg6 : Grows w1 w6 (.slice a6 (r + 32) c6) (r + 32) (shasTo l (k + 1)) := by
            refine ⟨?_, fun b hb => ?_, hu6⟩
            · rw [shasTo_succ, bytes_append, ← Hy5.out, ← HXX.out]; exact hown6
            · by_cases hbb : (Value.slice a5 r c5).ownBlock = some b
              · exact Hg.out.2.1 b hbb
              · have h1 := hb6 b hbb hb
                have h2 := Hbr.out.size
                have h3 := Hb89.out.size
                omega
          have Hg6 := Lib.hid hg6
          have Hu6 := Lib.hid hu6
          clear hown6 hgr6 hb6 hu6 hg6
          go_wp2
          go_roundw
          case rel => exact ⟨k + 1, m + 512, r + 32, a6, c6, by omega, by go_num, by have := Hm.out; omega, rfl, by rw [Hr.out]; omega, Hg6.out, Hu6.out⟩
          case measure => simp [intOf]; omega
      ·
          obtain ⟨q, hq⟩ : ∃ q, q = n - m := ⟨_, rfl⟩
          obtain ⟨a4, hs4, _, _, hsl4, _⟩ := (Hl.out.below Hbr.out).cut Tryd.underlying24 size_byte m (n) (by omega) (by omega) hlc
          have hcut := fun w => hs4 w m n rfl (by omega)
          obtain ⟨cm, hcm⟩ : ∃ cm, cm = c - m := ⟨_, rfl⟩
          rw [← hcm] at hcut hsl4
          rw [← hq] at hcut hsl4
          simp only [Nat.mul_one] at hsl4
          obtain ⟨y, hy⟩ : ∃ y, y = (l.drop m).take q := ⟨_, rfl⟩
          have hyl : y.length = q := by rw [hy, List.length_take, List.length_drop, Hn.out]; omega
          have e4 : ((bytes l).drop m).take q = bytes y := by rw [hy]; simp [bytes, List.map_drop, List.map_take]
          rw [e4] at hsl4
          have hq5 : q ≤ 512 := by omega
          have hy5 : y = (l.drop (512 * k)).take 512 := by rw [hy, Hm.out]; rw [List.take_of_length_le (by rw [List.length_drop, Hn.out]; have := Hm.out; omega), List.take_of_length_le (by rw [List.length_drop, Hn.out]; have := Hm.out; omega)]
          have Hsl4 := Lib.hid hsl4
          have Hyl := Lib.hid hyl
          have Hy5 := Lib.hid hy5
          have z0 : (0 : Int) ≤ (m : Int) := by omega
          clear hs4 hsl4 e4 hyl hy5 hy hq hcm
          go_wp2_with fail
          refine (refSHA_any wr a4 cm q y Hsl4.out Hyl.out (by omega)).mono ?_
          rintro e w8 ⟨rfl, hb8⟩
          have hX : (sha y).length = 32 := rfl
          obtain ⟨hCs, hCo⟩ := sum_cells (sha y) rfl
          obtain ⟨X, hXX⟩ : ∃ X, X = sha y := ⟨_, rfl⟩
          rw [← hXX] at hX hCs hCo ⊢
          obtain ⟨C2, hC2⟩ : ∃ C, C = (bytes X).toArray := ⟨_, rfl⟩
          rw [← hC2] at hCs hCo ⊢
          have HX := Lib.hid hX
          have HXX := Lib.hid hXX
          have HC2 := Lib.hid hC2
          have HCs := Lib.hid hCs
          have HCo := Lib.hid hCo
          have Hb8 := Lib.hid hb8
          clear hb8 hX hXX hC2 hCs hCo hcut
          go_wp2_with (refine wpList_store_fresh rfl 26 _ _ rfl C2 rfl rfl (by rw [HCs.out]; kernel_rfl) (by rw [HCs.out]; rfl) HCo.out ?_)
          intro w9 hs9 hr9 hb9
          have hb89 : Below wr.heap.size wr w9 := below_on Hb8.out hb9
          have Hb89 := Lib.hid hb89
          have hsl9 : Sl w9 1 (.slice (some ⟨w8.heap.size, 0, none⟩) 32 32) 32 (bytes X) := sl_row hr9 X (by rw [HC2.out]) 32 32 HX.out (by decide)
          have Hsl9 := Lib.hid hsl9
          clear hs9 hr9 hb9 hb89 hsl9
          go_wp2_with (at_builtin; refine wpList_append_any rfl _ _ 24 rfl 5 i0 (.int .u8 0) 1 1 Tryd.underlying24 hi hz0 hz1 hz2 rfl (by decide) (.slice a5 r c5) r (bytes (shasTo l k)) (.slice (some ⟨w8.heap.size, 0, none⟩) 32 32) 32 (bytes X) rfl rfl (Hg.out.1.kept (Upd.below Hb89.out fun _ => False) (fun _ _ => id)) Hsl9.out (bytes_one _) (by omega) (by omega) ?_)
          intro a6 c6 w6 hown6 hgr6 hb6
          have hu6 := (Hbr.out.trans (Hb89.out.mono Hbr.out.size)).upd (Nat.le_refl _) ((Upd.refl (fun b => w1.heap.size ≤ b) _).grown hgr6 (fun b hb _ => Hg.out.2.1 b hb)) (fun _ h => h)
          have hg6 : Grows w1 w6 (.slice a6 (r + 32) c6) (r + 32) (shasTo l (k + 1)) := by
            refine ⟨?_, fun b hb => ?_, hu6⟩
            · rw [shasTo_succ, bytes_append, ← Hy5.out, ← HXX.out]; exact hown6
            · by_cases hbb : (Value.slice a5 r c5).ownBlock = some b
              · exact Hg.out.2.1 b hbb
              · have h1 := hb6 b hbb hb
                have h2 := Hbr.out.size
                have h3 := Hb89.out.size
                omega
          have Hg6 := Lib.hid hg6
          have Hu6 := Lib.hid hu6
          clear hown6 hgr6 hb6 hu6 hg6
          go_wp2
          go_roundw
          case rel => exact ⟨k + 1, m + 512, r + 32, a6, c6, by omega, by go_num, by have := Hm.out; omega, rfl, by rw [Hr.out]; omega, Hg6.out, Hu6.out⟩
          case measure => simp [intOf]; omega
    · have hkc : k = pieceCount n := by have := Hm.out; unfold pieceCount; omega
      have hsl := Hg.out.1.sl
      have hlen2 : (shasTo l k).length = r := by rw [shasTo_length, Hr.out]
      have hdig : sha (shasTo l k) = digest l := by unfold digest; rw [Hn.out, ← hkc]
      have Hsl := Lib.hid hsl
      have Hln := Lib.hid hlen2
      have Hdig := Lib.hid hdig
      have hr9 : r ≤ 70368744177664 := by have := Hm.out; have := Hr.out; omega
      clear hkc hsl hlen2 hdig
      go_wp2_with fail
      refine (refSHA_any wr a5 c5 r (shasTo l k) Hsl.out Hln.out hr9).mono ?_
      rintro e w5 ⟨rfl, hb5⟩
      have hz5 := (hb5.block _ (lt_heap ((Hbr.out.block _ (lt_heap Hz1.out)).trans Hz1.out))).trans ((Hbr.out.block _ (lt_heap Hz1.out)).trans Hz1.out)
      rw [Hdig.out]
      obtain ⟨C, hC⟩ : ∃ C, C = (bytes (digest l)).toArray := ⟨_, rfl⟩
      obtain ⟨hCs, hCo⟩ := sum_cells (digest l) rfl
      have hZs : Z.size = 32 := by rw [HZ.out]; simp
      rw [← hC] at hCs hCo ⊢
      have HC := Lib.hid hC
      have HCs := Lib.hid hCs
      have HCo := Lib.hid hCo
      have HZs := Lib.hid hZs
      have Hz5 := Lib.hid hz5
      have Hb5 := Lib.hid hb5
      clear hC hCs hCo hZs hz5 hb5
      go_wp2_with (refine wpList_store_row rfl 26 (.tmp 2) _ rfl w.heap.size C rfl rfl 26 Z Hz5.out (by rw [HCs.out]; kernel_rfl) (by rw [HCs.out, HZs.out]) HCo.out ?_)
      have hset := setRow_heap w5 w.heap.size Z C 26 (0, 0) Hz5.out
      refine bodyPost_ret (results_cell_row (P := Tryd.prog) Tryd.results30 _ _ w.heap.size 26 C (0, 0) _ rfl hset Tryd.underlying26 rfl (by rw [HCs.out]; kernel_rfl)) rfl ⟨?_, ?_⟩
      · rw [HC.out]
      · exact below_setRow ((Hb1.out.trans (Hbr.out.mono Hb1.out.size)).trans (Hb5.out.mono (Hb1.out.trans (Hbr.out.mono Hb1.out.size)).size)) (Nat.le_refl _) C
end Go.Proofs.YtefobboakikpbaaDoor
