/- The reference's words of a block. -/
import Derived.Test.YtefobboakikpbaaDoorRef1
namespace Go.Proofs.YtefobboakikpbaaDoor
open Go.RowKit
set_option linter.unusedVariables false
set_option linter.unusedSimpArgs false

def wordTo (b : List UInt8) (i : Nat) : Nat → Nat
  | 0 => 0
  | k + 1 => 256 * wordTo b i k + (b.getD (4 * i + k) 0).toNat
theorem wordTo_four (b : List UInt8) (i : Nat) : wordTo b i 4 = word4 b i := by
  simp only [wordTo, word4, Nat.add_zero]
  omega
theorem wordTo_lt (b : List UInt8) (i k : Nat) : wordTo b i k < 256 ^ k := by
  induction k with
  | zero => simp [wordTo]
  | succ k ih =>
    have := (b.getD (4 * i + k) 0).toNat_lt
    rw [wordTo, Nat.pow_succ]; omega
theorem info_u64 : (Tryd.prog.info? 90).map (fun i => (i.zero, i.size, i.bytes)) = some (some (.int .u64 0), 1, 8) := by kernel_rfl

theorem u64_in' (n : Int) (h : 0 ≤ n ∧ n < 18446744073709551616) : IntKind.u64.wrap n = n := by
  simp [IntKind.wrap, IntKind.bits, IntKind.signed]
  omega
theorem xor64_step (a b : Nat) (ha : a < 4294967296) (hb : b < 4294967296) : ∃ t : Nat, t = a ^^^ b ∧ t < 4294967296 ∧ bits BinOp.xor IntKind.u64 (a : Int) (b : Int) = (t : Int) := ⟨_, rfl, lt32_xor ha hb, u64_xor_nat' _ _ (by omega) (by omega)⟩
theorem and64_step (a b : Nat) (ha : a < 4294967296) (hb : b < 4294967296) : ∃ t : Nat, t = a &&& b ∧ t < 4294967296 ∧ bits BinOp.and IntKind.u64 (a : Int) (b : Int) = (t : Int) := ⟨_, rfl, lt32_and ha, u64_and_nat' _ _ (by omega) (by omega)⟩

set_option maxHeartbeats 4000000 in
set_option maxRecDepth 100000 in
theorem refWords_any (w : World) (a : Option Addr) (c : Nat) (b : List UInt8) (hb : Sl w 1 (.slice a 64 c) 64 (bytes b)) (hl : b.length = 64) :
    Calls Tryd.prog 65 #[.slice a 64 c] w fun e w' => ∃ (a' : Option Addr) (c' : Nat), e = .returned (.slice a' 64 c') ∧ Own w' 90 1 (.slice a' 64 c') 64 (nums64 (sched b 64)) ∧ (∀ g, (Value.slice a' 64 c').ownBlock = some g → w.heap.size ≤ g) ∧ Below w.heap.size w w' := by
  obtain ⟨i0, hi, hz0, hz1, hz2⟩ := info_parts info_u64
  have Hb := Lib.hid hb
  have Hl := Lib.hid hl
  clear hb hl
  go_enter Tryd.func65, Tryd.ntmps65
  go_wp2_with fail
  go_loopw [3, 4] (fun v i wr => ∃ (k : Nat) (a' : Option Addr) (c' : Nat), k ≤ 16 ∧ i = .int .i64 k ∧ v = .slice a' k c' ∧ Own wr 90 1 (.slice a' k c') k (nums64 (sched b k)) ∧ (∀ g, (Value.slice a' k c').ownBlock = some g → w.heap.size ≤ g) ∧ Below w.heap.size w wr) (fun _ i _ => 16 - (intOf i).toNat)
  case atStart => exact ⟨0, none, 0, by omega, rfl, rfl, Own.nil _ _ _, by simp [Value.ownBlock], Below.refl _ _⟩
  case round =>
    obtain ⟨k, a', c', hk, rfl, rfl, hown, hob, hbe⟩ := hrel
    have Hown := Lib.hid hown
    have Hob := Lib.hid hob
    have Hbe := Lib.hid hbe
    clear hown hob hbe
    by_cases hlt : k < 16
    · go_wp2_with fail
      go_loopw [5, 6] (fun x i wq => ∃ q : Nat, q ≤ 4 ∧ i = .int .i64 q ∧ x = .int .u64 (wordTo b k q : Nat) ∧ wq = wr) (fun _ i _ => 4 - (intOf i).toNat)
      case atStart => exact ⟨0, by omega, rfl, rfl, rfl⟩
      case round =>
        rename World => wq
        obtain ⟨q, hq, rfl, rfl, hwq⟩ := hrel
        obtain rfl := hwq.symm
        obtain ⟨x, hx⟩ : ∃ x, x = wordTo b k q := ⟨_, rfl⟩
        have hxl := wordTo_lt b k q
        rw [← hx] at hxl ⊢
        by_cases hq4 : q < 4
        · have hx2 : x < 16777216 := by
            have : (256 : Nat) ^ q ≤ 256 ^ 3 := Nat.pow_le_pow_right (by decide) (by omega)
            omega
          obtain ⟨g, off, rfl, hgl, hc2⟩ := (Hb.out.below Hbe.out).open_ (by rw [bytes_length, Hl.out]; omega)
          have f0 := hc2 (4 * k + q) _ (bytes_getD b (4 * k + q) (by rw [Hl.out]; omega))
          obtain ⟨y, hy⟩ : ∃ y, y = (b.getD (4 * k + q) 0).toNat := ⟨_, rfl⟩
          have hy8 : y < 256 := by rw [hy]; exact UInt8.toNat_lt _
          rw [← hy] at f0
          have hn : 256 * x + y = wordTo b k (q + 1) := by rw [hx, hy]; rfl
          have Hn := Lib.hid hn
          have p0 : (0 : Int) ≤ 4 * (k : Int) + (q : Int) := by omega
          have p1 : (4 * (k : Int) + (q : Int)) < 64 := by omega
          have p2 : (4 * (k : Int) + (q : Int)).toNat = 4 * k + q := by omega
          clear hc2 hy hx hn hxl
          go_wp2
          go_roundw
          case rel => exact ⟨q + 1, by omega, by go_num, by rw [← Hn.out]; go_num, trivial⟩
          case measure => simp [intOf]; omega
        · have hx4 : x = word4 b k := by rw [hx, show q = 4 by omega, wordTo_four]
          have hx5 : x = nextWord b (sched b k) := by rw [hx4]; unfold nextWord; rw [sched_length, if_pos hlt]
          have Hx5 := Lib.hid hx5
          clear hx hx4 hx5 hxl
          go_wp2_with (at_builtin; refine wpList_append_any rfl _ _ 98 rfl 90 i0 (.int .u64 0) 1 8 Tryd.underlying98 hi hz0 hz1 hz2 rfl (by decide) (.slice a' k c') k (nums64 (sched b k)) (.slice (some ⟨wr.heap.size, 0, none⟩) 1 1) 1 (nums64 [x]) rfl rfl (Hown.out.kept ((Upd.refl (fun _ => False) wr).alloc _) (fun _ _ => id)) (Sl.made _ _ _ _ _ _ _ _ rfl rfl (by omega)) (nums64_one _) (by omega) (by omega) ?_)
          intro a4 c4 w4 hown4 hgr4 hb4
          have Hu4 := Lib.hid (Upd.grown (S := fun b => w.heap.size ≤ b) ((Upd.refl _ wr).alloc _) hgr4 (fun b hb _ => Hob.out b hb))
          rw [← nums64_append, Hx5.out] at hown4
          have Hown4 := Lib.hid hown4
          have Hb4 := Lib.hid hb4
          clear hown4 hgr4 hb4
          go_wp2
          go_roundw
          case rel =>
            refine ⟨k + 1, a4, c4, by omega, by go_num, rfl, Hown4.out, ?_, Hbe.out.upd (Nat.le_refl _) Hu4.out (fun _ h => h)⟩
            intro g hg
            by_cases hbb : (Value.slice a' k c').ownBlock = some g
            · exact Hob.out g hbb
            · have h1 := Hb4.out g hbb hg
              have h2 := Hbe.out.size
              (try simp at h1); omega
          case measure => simp [intOf]; omega
    · have hk16 : k = 16 := by omega
      subst hk16
      clear hk hlt
      go_wp2_with fail
      rw [show ((16 : Nat) : Int) = 16 from rfl]
      go_loopw [3, 7] (fun v i wr => ∃ (k : Nat) (a' : Option Addr) (c' : Nat), 16 ≤ k ∧ k ≤ 64 ∧ i = .int .i64 k ∧ v = .slice a' k c' ∧ Own wr 90 1 (.slice a' k c') k (nums64 (sched b k)) ∧ (∀ g, (Value.slice a' k c').ownBlock = some g → w.heap.size ≤ g) ∧ Below w.heap.size w wr) (fun _ i _ => 64 - (intOf i).toNat)
      case atStart => exact ⟨16, a', c', by omega, by omega, rfl, rfl, Hown.out, Hob.out, Hbe.out⟩
      case round =>
        clear Hown Hob Hbe
        obtain ⟨k, a', c', hk16, hk, rfl, rfl, hown, hob, hbe⟩ := hrel
        have Hown := Lib.hid hown
        have Hob := Lib.hid hob
        have Hbe := Lib.hid hbe
        clear hown hob hbe
        by_cases hlt : k < 64
        · have hsl := sched_length b k
          obtain ⟨g, off, cap, cur, hv, hgrow, _, _, hcell, _⟩ := Hown.out.cells (ne_nil_of_length (by rw [nums64_length, hsl]; omega))
          injection hv with hv1 _ hv3
          subst hv1 hv3
          have f15 := hcell (k - 15) _ (nums64_get (sched b k) (k - 15) (by omega))
          have f2 := hcell (k - 2) _ (nums64_get (sched b k) (k - 2) (by omega))
          have f16 := hcell (k - 16) _ (nums64_get (sched b k) (k - 16) (by omega))
          have f7 := hcell (k - 7) _ (nums64_get (sched b k) (k - 7) (by omega))
          have hlt' : ∀ j, (sched b k).getD j 0 < 4294967296 := sched_getD_lt b k
          obtain ⟨y15, hy15⟩ : ∃ y, y = (sched b k).getD (k - 15) 0 := ⟨_, rfl⟩
          obtain ⟨y2, hy2⟩ : ∃ y, y = (sched b k).getD (k - 2) 0 := ⟨_, rfl⟩
          obtain ⟨y16, hy16⟩ : ∃ y, y = (sched b k).getD (k - 16) 0 := ⟨_, rfl⟩
          obtain ⟨y7, hy7⟩ : ∃ y, y = (sched b k).getD (k - 7) 0 := ⟨_, rfl⟩
          have b15 : y15 < 4294967296 := by rw [hy15]; exact hlt' _
          have b2 : y2 < 4294967296 := by rw [hy2]; exact hlt' _
          have b16 : y16 < 4294967296 := by rw [hy16]; exact hlt' _
          have b7 : y7 < 4294967296 := by rw [hy7]; exact hlt' _
          rw [← hy15] at f15
          rw [← hy2] at f2
          rw [← hy16] at f16
          rw [← hy7] at f7
          have hnx : (y16 + sig0 y15 + y7 + sig1 y2) % 4294967296 = nextWord b (sched b k) := by
            unfold nextWord
            rw [hsl, if_neg (by omega), ← hy15, ← hy2, ← hy16, ← hy7]
          have Hnx := Lib.hid hnx
          have e15 : IntKind.i64.wrap ((k : Int) - 15) = k - 15 := IntWalk.i64_in _ (by omega)
          have p15 : (0 : Int) ≤ (k : Int) - 15 := by omega
          have q15 : ((k : Int) - 15).toNat = k - 15 := by omega
          have r15 : (k : Int) - 15 < (k : Int) := by omega
          have e2 : IntKind.i64.wrap ((k : Int) - 2) = k - 2 := IntWalk.i64_in _ (by omega)
          have p2 : (0 : Int) ≤ (k : Int) - 2 := by omega
          have q2 : ((k : Int) - 2).toNat = k - 2 := by omega
          have r2 : (k : Int) - 2 < (k : Int) := by omega
          have e16 : IntKind.i64.wrap ((k : Int) - 16) = k - 16 := IntWalk.i64_in _ (by omega)
          have p16 : (0 : Int) ≤ (k : Int) - 16 := by omega
          have q16 : ((k : Int) - 16).toNat = k - 16 := by omega
          have r16 : (k : Int) - 16 < (k : Int) := by omega
          have e7 : IntKind.i64.wrap ((k : Int) - 7) = k - 7 := IntWalk.i64_in _ (by omega)
          have p7 : (0 : Int) ≤ (k : Int) - 7 := by omega
          have s16 : (16 : Int) ≤ k := by omega
          have s15 : (15 : Int) ≤ k := by omega
          have s7 : (7 : Int) ≤ k := by omega
          have s2 : (2 : Int) ≤ k := by omega
          have q7 : ((k : Int) - 7).toNat = k - 7 := by omega
          have r7 : (k : Int) - 7 < (k : Int) := by omega
          obtain ⟨u1, hu1, lu1, qu1⟩ := xor64_step (rotr y15 7) (rotr y15 18) (rotr_lt _ _ b15) (rotr_lt _ _ b15)
          obtain ⟨s0, hs0, ls0, qs0⟩ := xor64_step u1 (y15 / 8) lu1 (lt32_div b15)
          obtain ⟨u2, hu2, lu2, qu2⟩ := xor64_step (rotr y2 17) (rotr y2 19) (rotr_lt _ _ b2) (rotr_lt _ _ b2)
          obtain ⟨s1, hs1, ls1, qs1⟩ := xor64_step u2 (y2 / 1024) lu2 (lt32_div b2)
          have hS0 : sig0 y15 = s0 := by rw [hs0, hu1]; rfl
          have hS1 : sig1 y2 = s1 := by rw [hs1, hu2]; rfl
          rw [hS0, hS1] at hnx
          obtain ⟨v, hv⟩ : ∃ v, v = (y16 + s0 + y7 + s1) % 4294967296 := ⟨_, rfl⟩
          have Hv := Lib.hid (hv.trans hnx)
          rw [show ((y15 / 8 : Nat) : Int) = (y15 : Int) / 8 from rfl] at qs0
          rw [show ((y2 / 1024 : Nat) : Int) = (y2 : Int) / 1024 from rfl] at qs1
          have ev : ((y16 : Int) + (s0 : Int) + (y7 : Int) + (s1 : Int)).tmod 4294967296 = (v : Int) := by rw [hv]; rfl
          have w1 : IntKind.u64.wrap ((y16 : Int) + (s0 : Int)) = (y16 : Int) + (s0 : Int) := u64_in' _ (by omega)
          have w2 : IntKind.u64.wrap ((y16 : Int) + (s0 : Int) + (y7 : Int)) = (y16 : Int) + (s0 : Int) + (y7 : Int) := u64_in' _ (by omega)
          have w3 : IntKind.u64.wrap ((y16 : Int) + (s0 : Int) + (y7 : Int) + (s1 : Int)) = (y16 : Int) + (s0 : Int) + (y7 : Int) + (s1 : Int) := u64_in' _ (by omega)
          have ev2 : ((y16 : Int) + (s0 : Int) + (y7 : Int) + (s1 : Int)) % 4294967296 = (v : Int) := by rw [hv]; rfl
          clear hnx hv hs0 hs1 hu1 hu2 hS0 hS1 hy15 hy2 hy16 hy7 hlt' hcell hsl Hnx
          have Hgr := Lib.hid hgrow
          clear hgrow
          go_wp2_with fail
          go_quiet (fail)
          generalize hwq : wr.drewN nq = wq
          have f16 : wq.cell? ⟨g, off + (k - 16), none⟩ = some (.int .u64 (y16 : Nat)) := by rw [← hwq]; exact f16
          have f7 : wq.cell? ⟨g, off + (k - 7), none⟩ = some (.int .u64 (y7 : Nat)) := by rw [← hwq]; exact f7
          have Hup : Hid (Upd (fun _ => False) wr wq) := by rw [← hwq]; exact (Upd.refl _ _).drewN nq
          clear hwq f15 f2
          go_wp2_with fail
          refine (turn_7 y15 b15 _).mono ?_
          rintro e w' ⟨rfl, hw⟩
          obtain rfl := hw.symm
          go_wp2_with fail
          refine (turn_18 y15 b15 _).mono ?_
          rintro e w' ⟨rfl, hw⟩
          obtain rfl := hw.symm
          go_wp2_with fail
          refine (turn_17 y2 b2 _).mono ?_
          rintro e w' ⟨rfl, hw⟩
          obtain rfl := hw.symm
          go_wp2_with fail
          refine (turn_19 y2 b2 _).mono ?_
          rintro e w' ⟨rfl, hw⟩
          obtain rfl := hw.symm
          have hownq := Hown.out.kept Hup.out (fun _ _ => id)
          have Hownq := Lib.hid hownq
          have hwl : w.heap.size ≤ wq.heap.size := Nat.le_trans Hbe.out.size Hup.out.size
          clear hownq
          go_wp2_with fail
          go_region_law ((refine step_append_any rfl _ _ 98 rfl 90 i0 (.int .u64 0) 1 8 Tryd.underlying98 hi hz0 hz1 hz2 rfl (by decide) (.slice (some ⟨g, off, none⟩) k c') k (nums64 (sched b k)) (.slice (some ⟨wq.heap.size, 0, none⟩) 1 1) 1 (nums64 [v]) rfl rfl (Hownq.out.kept ((Upd.refl (fun _ => False) wq).alloc _).drew (fun _ _ => id)) ((Sl.made wq 90 1 1 1 _ _ _ rfl rfl (by omega)).kept (Upd.refl (fun _ => False) _).drew (fun _ _ _ => id)) (nums64_one _) (by omega) (by omega) ?_; intro a4 c4 w4 hown4 hgr4 hb4))
          all_goals
            have Hu4 := Lib.hid (Upd.grown (S := fun b => w.heap.size ≤ b) ((Upd.refl _ wq).alloc _).drew hgr4 (fun b hb _ => Hob.out b hb))
            rw [← nums64_append, Hv.out] at hown4
            have Hown4 := Lib.hid hown4
            have Hb4 := Lib.hid hb4
            clear hown4 hgr4 hb4
            go_wp2
            go_roundw
            case rel =>
              refine ⟨k + 1, a4, c4, by omega, by omega, by go_num, rfl, Hown4.out, ?_, (Hbe.out.upd (Nat.le_refl _) Hup.out (fun _ h => h.elim)).upd (Nat.le_refl _) Hu4.out (fun _ h => h)⟩
              intro g' hg
              by_cases hbb : (Value.slice (some ⟨g, off, none⟩) k c').ownBlock = some g'
              · exact Hob.out g' hbb
              · have h1 := Hb4.out g' hbb hg
                (try simp at h1); omega
            case measure => simp [intOf]; omega
        · have hk64 : k = 64 := by omega
          subst hk64
          go_wp2
          go_ret
          exact ⟨a', c', rfl, Hown.out, Hob.out, Hbe.out⟩
end Go.Proofs.YtefobboakikpbaaDoor
