/- What SumDamage calls: same, four, turned. -/
import Derived.Test.YtefobboakikpbaaDoorParts
import Derived.Test.YtefobboakikpbaaDoorCrcLaw
namespace Go.Proofs.YtefobboakikpbaaDoor
open Go.RowKit
set_option linter.unusedVariables false
set_option linter.unusedSimpArgs false

set_option maxHeartbeats 1000000 in
theorem four_any (w : World) (x : Nat) (hx : x < 4294967296) :
    Calls Tryd.prog 36 #[.int .u32 (x : Nat)] w fun e w' => e = .returned (.slice (some ⟨w.heap.size, 0, none⟩) 4 4) ∧ Sl w' 1 (.slice (some ⟨w.heap.size, 0, none⟩) 4 4) 4 (bytes (fourLow x)) ∧ Below w.heap.size w w' := by
  go_enter Tryd.func36, Tryd.ntmps36
  go_wp2
  go_ret
  refine ⟨rfl, Sl.made w 5 1 4 4 _ (0, 0) _ ?_ rfl (by decide), (Below.refl _ _).alloc (Nat.le_refl _) _⟩
  have e1 : ((x : Int) % 256) = ((UInt8.ofNat x).toNat : Int) := by rw [UInt8.toNat_ofNat']; omega
  have e2 : ((x : Int) / 256 % 256) = ((UInt8.ofNat (x / 256)).toNat : Int) := by rw [UInt8.toNat_ofNat']; omega
  have e3 : ((x : Int) / 65536 % 256) = ((UInt8.ofNat (x / 65536)).toNat : Int) := by rw [UInt8.toNat_ofNat']; omega
  have e4 : ((x : Int) / 16777216) = ((UInt8.ofNat (x / 16777216)).toNat : Int) := by rw [UInt8.toNat_ofNat']; omega
  rw [e1, e2, e3, e4]
  rfl

set_option maxHeartbeats 1000000 in
theorem same_any (w : World) (a b : Option Addr) (c d n m : Nat) (k l : List UInt8) (hk : Sl w 1 (.slice a n c) n (bytes k)) (hl : Sl w 1 (.slice b m d) m (bytes l)) (hn : k.length = n) (hm : l.length = m) :
    Calls Tryd.prog 33 #[.slice a n c, .slice b m d] w fun e w' => e = .returned (.bool (decide (k = l))) ∧ Below w.heap.size w w' := by
  have hkm : n ≤ 9223372036854775807 := by obtain ⟨_, _, _, _, h, _⟩ := hk; exact h
  have hlm : m ≤ 9223372036854775807 := by obtain ⟨_, _, _, _, h, _⟩ := hl; exact h
  have Hk := Lib.hid hk
  have Hl := Lib.hid hl
  clear hk hl
  by_cases hnm : n = m
  · subst hnm
    have Hn := Lib.hid hn
    have Hm := Lib.hid hm
    clear hn hm
    go_enter Tryd.func33, Tryd.ntmps33
    go_wp2_with fail
    go_loopw [5] (fun i wr => ∃ j : Nat, j ≤ n ∧ i = .int .i64 j ∧ k.take j = l.take j ∧ Below w.heap.size w wr) (fun i _ => n - (intOf i).toNat)
    case atStart => exact ⟨0, Nat.zero_le _, rfl, rfl, Below.refl _ _⟩
    case round =>
      obtain ⟨j, hj, rfl, he, hbe⟩ := hrel
      have He := Lib.hid he
      have Hbe := Lib.hid hbe
      clear he hbe
      by_cases hlt : j < n
      · have hn := Hn.out
        have hm := Hm.out
        have g0 := Hk.out.below Hbe.out
        have g1 := Hl.out.below Hbe.out
        obtain ⟨p0, o0, rfl, _, f0⟩ := g0.open_ (by rw [bytes_length]; omega)
        obtain ⟨p1, o1, rfl, _, f1⟩ := g1.open_ (by rw [bytes_length]; omega)
        have f0 := f0 j _ (bytes_getD k j (by omega))
        have f1 := f1 j _ (bytes_getD l j (by omega))
        have t1 : k.take (j + 1) = k.take j ++ [k.getD j 0] := by
          rw [List.take_succ_eq_append_getElem (by omega), List.getD_eq_getElem?_getD, List.getElem?_eq_getElem (by omega)]; rfl
        have t2 : l.take (j + 1) = l.take j ++ [l.getD j 0] := by
          rw [List.take_succ_eq_append_getElem (by omega), List.getD_eq_getElem?_getD, List.getElem?_eq_getElem (by omega)]; rfl
        have T1 := Lib.hid t1
        have T2 := Lib.hid t2
        obtain ⟨x, hx⟩ : ∃ x, x = (k.getD j 0).toNat := ⟨_, rfl⟩
        obtain ⟨y, hy⟩ : ∃ y, y = (l.getD j 0).toNat := ⟨_, rfl⟩
        rw [← hx] at f0
        rw [← hy] at f1
        have Hx := Lib.hid hx
        have Hy := Lib.hid hy
        have r0 : (0 : Int) ≤ (j : Int) := by omega
        have r1 : (j : Int) < (n : Int) := by omega
        clear g0 g1 t1 t2 hx hy hn hm
        by_cases hxy : x = y
        · subst hxy
          go_wp2_with fail
          go_quiet (fail)
          go_wp2
          go_roundw
          case rel =>
            refine ⟨j + 1, hlt, by go_num, ?_, Hbe.out.upd (Nat.le_refl _) ((Upd.refl (fun _ => False) _).drewN nq) (fun _ h => h.elim)⟩
            have h1 := Hx.out
            rw [Hy.out] at h1
            rw [T1.out, T2.out, He.out, UInt8.toNat_inj.1 h1]
          case measure => simp [intOf]; omega
        · have hne : ((x : Int) != (y : Int)) = true := by rw [bne_iff_ne]; omega
          go_wp2_with fail
          go_quiet (fail)
          go_wp2
          go_ret
          refine ⟨?_, Hbe.out.upd (Nat.le_refl _) ((Upd.refl (fun _ => False) _).drewN nq) (fun _ h => h.elim)⟩
          rw [decide_eq_false]
          · rfl
          · intro e; apply hxy; rw [Hx.out, Hy.out, e]
      · have hjn : j = n := by omega
        have hkl : k = l := by
          have h := He.out
          rw [List.take_of_length_le (by rw [Hn.out]; omega), List.take_of_length_le (by rw [Hm.out]; omega)] at h
          exact h
        have Hkl := Lib.hid hkl
        clear hkl
        go_wp2
        go_ret
        refine ⟨?_, Hbe.out⟩
        rw [decide_eq_true Hkl.out]
        rfl
  · have hne : ((n : Int) != (m : Int)) = true := by rw [bne_iff_ne]; omega
    have Hne := Lib.hid (show k ≠ l by rintro rfl; exact hnm (hn.symm.trans hm))
    clear hn hm
    go_enter Tryd.func33, Tryd.ntmps33
    go_wp2
    go_ret
    refine ⟨?_, Below.refl _ _⟩
    rw [decide_eq_false Hne.out]
    rfl

/-- What `turned` answers: other bytes, of the same number, with bits turned within 32; and whether they are other ones. -/
def Turned (l y : List UInt8) : Prop := y.length = l.length ∧ ∃ s d, s ≤ 8 * l.length ∧ d < 4294967296 ∧ numOf y = numOf l ^^^ 2 ^ s * d
set_option maxHeartbeats 2000000 in
set_option maxRecDepth 100000 in
theorem turned_any (w : World) (a : Option Addr) (c n : Nat) (l : List UInt8) (hl : Sl w 1 (.slice a n c) n (bytes l)) (hn : l.length = n) (hlen : n ≤ 40000) (z : Int) (hz1 : -9223372036854775808 ≤ z) (hz2 : z ≤ 9223372036854775807) (x : Nat) (hx : x < 4294967296) :
    Calls Tryd.prog 35 #[.slice a n c, .int .i64 z, .int .u32 (x : Nat)] w fun e w' => ∃ (a' : Option Addr) (c' : Nat) (y : List UInt8), e = .returned (.tuple #[.slice a' n c', .bool (!decide (y = l))]) ∧ Turned l y ∧ n ≤ c' ∧ Sl w' 1 (.slice a' n c') n (bytes y) ∧ Below w.heap.size w w' := by
  obtain ⟨i0, hi, hz0, hz1', hz2'⟩ := info_parts info_byte
  have Hl := Lib.hid hl
  have Hn := Lib.hid hn
  clear hl hn
  go_enter Tryd.func35, Tryd.ntmps35
  go_wp2_with (at_builtin; refine wpList_append_any rfl _ _ 24 rfl 5 i0 (.int .u8 0) 1 1 Tryd.underlying24 hi hz0 hz1' hz2' rfl (by decide) (.slice none 0 0) 0 [] _ n (bytes l) rfl rfl (Own.nil _ _ _) Hl.out (bytes_one l) (by omega) (by omega) ?_)
  intro a5 c5 w1 hg5 hgr5 hb5
  have hu1 := (Below.refl w.heap.size w).grown hgr5 (Nat.le_refl _) (by simp [Value.ownBlock])
  have hb5' : ∀ k, (Value.slice a5 n c5).ownBlock = some k → w.heap.size ≤ k := fun k hk => hb5 k (by simp [Value.ownBlock]) (by simpa using hk)
  have hcap : n ≤ c5 := by
    rcases hg5.2.2 with ⟨hv, h0⟩ | ⟨_, _, _, _, hv, _, hnc, _⟩
    · omega
    · injection hv with _ _ hc; omega
  have Hg5 := Lib.hid hg5
  have Hu1 := Lib.hid hu1
  have Hb5 := Lib.hid hb5'
  clear hg5 hgr5 hb5 hu1 hb5'
  by_cases h0 : n = 0
  · have hln : l = [] := List.eq_nil_of_length_eq_zero (Hn.out.trans h0)
    subst h0
    subst hln
    go_wp2
    go_ret2
    exact ⟨a5, c5, [], rfl, ⟨rfl, 0, 0, Nat.zero_le _, by decide, by simp⟩, hcap, Hg5.out.sl, Hu1.out⟩
  · have hnz : ((n : Int) == 0) = false := by rw [beq_eq_false_iff_ne]; omega
    go_wp2_with fail
    refine (place_any w1 z (8 * (n : Int)) (by omega) (by omega) hz1 hz2).mono ?_
    rintro e wq ⟨⟨r, hr, rfl⟩, hw⟩
    obtain rfl := hw.symm
    go_wp2_with fail
    go_loopw [9] (fun i wr => ∃ (k : Nat) (y : List UInt8), k ≤ 32 ∧ r + k ≤ 8 * n ∧ i = .int .i64 k ∧ Own wr 5 1 (.slice a5 n c5) n (bytes y) ∧ y.length = l.length ∧ numOf y = numOf l ^^^ 2 ^ r * (x % 2 ^ k) ∧ Below w.heap.size w wr) (fun i _ => 32 - (intOf i).toNat)
    case atStart => exact ⟨0, l, by omega, by omega, rfl, Hg5.out, rfl, by simp [Nat.mod_one], Hu1.out⟩
    case round =>
      obtain ⟨k, y, hk, hrk, rfl, hown, hyl, hny, hbe⟩ := hrel
      have Hown := Lib.hid hown
      have Hyl := Lib.hid hyl
      have Hny := Lib.hid hny
      have Hbe := Lib.hid hbe
      clear hown hyl hny hbe
      by_cases hlt : k < 32 ∧ r + k < 8 * n
      · obtain ⟨hlt1, hlt2⟩ := hlt
        have hc1 : ((r : Int) + (k : Int)) < 8 * (n : Int) := by omega
        by_cases hbit : x / 2 ^ k % 2 = 1
        · have tb : (((x : Int) / 2 ^ k).tmod 2 == 1) = true := by
            rw [beq_iff_eq, show ((x : Int) / 2 ^ k) = ((x / 2 ^ k : Nat) : Int) by rw [Int.natCast_ediv, Int.natCast_pow]; rfl]
            show ((((x / 2 ^ k) % 2 : Nat) : Int)) = 1
            rw [hbit]; rfl
          obtain ⟨m, hm⟩ : ∃ m, m = (r + k) / 8 := ⟨_, rfl⟩
          obtain ⟨t, ht⟩ : ∃ t, t = (r + k) % 8 := ⟨_, rfl⟩
          have e1 : ((r : Int) + (k : Int)) / 8 = (m : Int) := by omega
          have e2 : ((r : Int) + (k : Int)).tdiv 8 = (m : Int) := by rw [hm]; rfl
          have e3 : ((r : Int) + (k : Int)) % 8 = (t : Int) := by omega
          have e4 : ((r : Int) + (k : Int)).tmod 8 = (t : Int) := by rw [ht]; rfl
          have hmn : m < n := by omega
          have ht8 : t < 8 := by omega
          have hyl : y.length = n := Hyl.out.trans Hn.out
          obtain ⟨g, off, cap, cur, hv, _, _, _, hcell, hfr⟩ := Hown.out.cells (ne_nil_of_length (by rw [bytes_length]; omega))
          injection hv with hv1 _ hv3
          subst hv1 hv3
          have f0 := hcell m _ (bytes_getD y m (by omega))
          have fz := hfr (off + m)
          obtain ⟨b, hb⟩ : ∃ b, b = (y.getD m 0).toNat := ⟨_, rfl⟩
          have hb8 : b < 256 := by rw [hb]; exact UInt8.toNat_lt _
          rw [← hb] at f0
          have Hb := Lib.hid hb
          have Hm := Lib.hid hm
          have Ht := Lib.hid ht
          have Hbit := Lib.hid hbit
          clear hcell hfr hb hm ht hbit hyl
          go_wp2
          go_roundw
          case rel =>
            have hyl := Hyl.out.trans Hn.out
            have hxb : b ^^^ 2 ^ t < 256 := Nat.xor_lt_two_pow (n := 8) hb8 (Nat.pow_lt_pow_right (by decide) ht8)
            have ev : bits BinOp.xor IntKind.u8 (b : Int) (2 ^ t % 256) = (((UInt8.ofNat (b ^^^ 2 ^ t)).toNat : Nat) : Int) := by
              have h1 : ((2 : Int) ^ t % 256) = ((2 ^ t : Nat) : Int) := by
                have h2 : (2 : Nat) ^ t < 2 ^ 8 := Nat.pow_lt_pow_right (by decide) ht8
                have h3 : ((2 : Int) ^ t) = ((2 ^ t : Nat) : Int) := by rw [Int.natCast_pow]; rfl
                rw [h3]
                generalize (2 : Nat) ^ t = P at h2 ⊢
                omega
              rw [h1, u8_xor_nat _ _ hb8 (Nat.pow_lt_pow_right (by decide) ht8), UInt8.toNat_ofNat', Nat.mod_eq_of_lt hxb]
            have hset : (bytes y).set m (.int .u8 ((UInt8.ofNat (b ^^^ 2 ^ t)).toNat : Nat)) = bytes (y.set m (UInt8.ofNat (b ^^^ 2 ^ t))) := by simp [bytes, List.map_set]
            refine ⟨k + 1, y.set m (UInt8.ofNat (b ^^^ 2 ^ t)), by omega, by omega, by go_num, ?_, by rw [List.length_set]; exact Hyl.out, ?_, Hbe.out.setCell (show w.heap.size ≤ (⟨g, off + m, none⟩ : Addr).block from Hb5.out g rfl) _⟩
            · rw [ev, ← hset]
              exact Hown.out.set m _ (by omega)
            · have hb2 : (UInt8.ofNat (b ^^^ 2 ^ t)).toNat = (y.getD m 0).toNat ^^^ 2 ^ t := by rw [UInt8.toNat_ofNat', Nat.mod_eq_of_lt hxb, Hb.out]
              have hpw : x % 2 ^ (k + 1) = 2 ^ k * 1 ^^^ x % 2 ^ k := by
                rw [Nat.mod_pow_succ, Hbit.out, ← two_pow_xor (Nat.mod_lt _ (Nat.two_pow_pos k)) 1]; omega
              rw [numOf_set y m (by omega) _ (2 ^ t) hb2 (Nat.pow_lt_pow_right (by decide) ht8), Hny.out, hpw, two_pow_mul_xor, ← Nat.pow_add, Nat.mul_one, ← Nat.pow_add,
                show 8 * m + t = r + k by have := Hm.out; have := Ht.out; omega, Nat.xor_assoc, Nat.xor_comm (2 ^ r * (x % 2 ^ k))]
          case measure => simp [intOf]; omega
        · have tb : (((x : Int) / 2 ^ k).tmod 2 == 1) = false := by
            rw [beq_eq_false_iff_ne, show ((x : Int) / 2 ^ k) = ((x / 2 ^ k : Nat) : Int) by rw [Int.natCast_ediv, Int.natCast_pow]; rfl]
            show ((((x / 2 ^ k) % 2 : Nat) : Int)) ≠ 1
            omega
          have hpw : x % 2 ^ (k + 1) = x % 2 ^ k := by
            rw [Nat.mod_pow_succ, show x / 2 ^ k % 2 = 0 by omega]; simp
          have Hpw := Lib.hid hpw
          clear hpw hbit
          go_wp2
          go_roundw
          case rel => exact ⟨k + 1, y, by omega, by omega, by go_num, Hown.out, Hyl.out, by rw [Hpw.out]; exact Hny.out, Hbe.out⟩
          case measure => simp [intOf]; omega
      · have hstop : ¬ (k < 32 ∧ r + k < 8 * n) := hlt
        have hyl : y.length = n := Hyl.out.trans Hn.out
        have hT : Turned l y := ⟨Hyl.out, r, x % 2 ^ k, by rw [Hn.out]; omega, Nat.lt_of_le_of_lt (Nat.mod_le _ _) hx, Hny.out⟩
        have Hyn := Lib.hid hyl
        have HT := Lib.hid hT
        clear hyl hT
        by_cases hk32 : k < 32
        · have hc1 : 8 * (n : Int) ≤ ((r : Int) + (k : Int)) := by omega
          go_wp2_with fail
          refine (same_any wr a5 a c5 c n n y l Hown.out.sl (Hl.out.below Hbe.out) Hyn.out Hn.out).mono ?_
          rintro e w' ⟨rfl, hb⟩
          have Hbw := Lib.hid (Hbe.out.trans (hb.mono Hbe.out.size))
          have Hsw := Lib.hid (Hown.out.sl.below hb)
          clear hb
          go_wp2
          go_ret2
          exact ⟨a5, c5, y, rfl, HT.out, hcap, Hsw.out, Hbw.out⟩
        · have hc1 : (32 : Int) ≤ (k : Int) := by omega
          go_wp2_with fail
          refine (same_any wr a5 a c5 c n n y l Hown.out.sl (Hl.out.below Hbe.out) Hyn.out Hn.out).mono ?_
          rintro e w' ⟨rfl, hb⟩
          have Hbw := Lib.hid (Hbe.out.trans (hb.mono Hbe.out.size))
          have Hsw := Lib.hid (Hown.out.sl.below hb)
          clear hb
          go_wp2
          go_ret2
          exact ⟨a5, c5, y, rfl, HT.out, hcap, Hsw.out, Hbw.out⟩
end Go.Proofs.YtefobboakikpbaaDoor
