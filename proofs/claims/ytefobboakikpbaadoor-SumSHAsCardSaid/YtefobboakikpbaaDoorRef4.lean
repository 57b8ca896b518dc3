/- The reference's padded. -/
import Derived.Test.YtefobboakikpbaaDoorRef3
namespace Go.Proofs.YtefobboakikpbaaDoor
open Go.RowKit
set_option linter.unusedVariables false
set_option linter.unusedSimpArgs false

/-- A list of the call's own that grows. -/
def Grows (w wr : World) (v : Value) (n : Nat) (l : List UInt8) : Prop :=
  Own wr 5 1 v n (bytes l) ∧ (∀ k, v.ownBlock = some k → w.heap.size ≤ k) ∧ Below w.heap.size w wr
theorem Grows.push {w wr w' : World} {v v' : Value} {n : Nat} {l : List UInt8} {x : UInt8} (h : Grows w wr v n l) (o : Obj) (hown : Own w' 5 1 v' (n + 1) (bytes l ++ bytes [x]))
    (hgr : (wr.alloc o).grownBy w' v.ownBlock) (hb : ∀ k, ¬ v.ownBlock = some k → v'.ownBlock = some k → wr.heap.size + 1 ≤ k) : Grows w w' v' (n + 1) (l ++ [x]) := by
  obtain ⟨h1, h2, h3⟩ := h
  refine ⟨by rw [bytes_append]; exact hown, fun k hk => ?_, (h3.alloc h3.size o).grown hgr (by have := h3.size; simp; omega) (fun k hk => h2 k hk)⟩
  by_cases hv : v.ownBlock = some k
  · exact h2 k hv
  · have := hb k hv hk
    have := h3.size
    omega

set_option maxHeartbeats 4000000 in
set_option maxRecDepth 100000 in
theorem refPadded_any (w : World) (a : Option Addr) (c n : Nat) (l : List UInt8) (hl : Sl w 1 (.slice a n c) n (bytes l)) (hn : l.length = n) (hlen : n ≤ 70368744177664) :
    Calls Tryd.prog 47 #[.slice a n c] w fun e w' => ∃ (a' : Option Addr) (m c' : Nat), e = .returned (.slice a' m c') ∧ (tailOf l l.length).length = m ∧ Grows w w' (.slice a' m c') m (tailOf l l.length) := by
  have Hl := Lib.hid hl
  have Hn := Lib.hid hn
  clear hl hn
  obtain ⟨i0, hi, hz0, hz1, hz2⟩ := info_parts info_byte
  go_enter Tryd.func47, Tryd.ntmps47
  go_wp2_with (at_builtin; refine wpList_append_any rfl _ _ 24 rfl 5 i0 (.int .u8 0) 1 1 Tryd.underlying24 hi hz0 hz1 hz2 rfl (by decide) (.slice none 0 0) 0 [] _ n (bytes l) rfl rfl (Own.nil _ _ _) Hl.out (bytes_one l) (by omega) (by omega) ?_)
  intro a1 c1 w1 hg1 hgr1 hb1
  have H1 : Hid (Grows w w1 (.slice a1 n c1) n l) := ⟨hg1, fun k hk => hb1 k (by simp [Value.ownBlock]) (by simpa using hk), (Below.refl _ _).grown hgr1 (Nat.le_refl _) (by simp [Value.ownBlock])⟩
  clear hg1 hgr1 hb1
  go_wp2_with (at_builtin; refine wpList_append_any rfl _ _ 24 rfl 5 i0 (.int .u8 0) 1 1 Tryd.underlying24 hi hz0 hz1 hz2 rfl (by decide) (.slice a1 n c1) n (bytes l) (.slice (some ⟨w1.heap.size, 0, none⟩) 1 1) 1 (bytes [128]) rfl rfl (H1.out.1.kept ((Upd.refl (fun _ => False) w1).alloc _) (fun _ _ => id)) (Sl.made _ _ _ _ _ _ _ _ rfl rfl (by omega)) (bytes_one _) (by omega) (by omega) ?_)
  intro a2 c2 w2 hg2 hgr2 hb2
  have H2 := Lib.hid (H1.out.push (x := 128) _ hg2 hgr2 hb2)
  clear hg2 hgr2 hb2
  obtain ⟨m, hm⟩ : ∃ m, m = n + 1 := ⟨_, rfl⟩
  have H2m : Hid (Grows w w2 (.slice a2 m c2) m (l ++ [128])) := by rw [hm]; exact H2.out
  rw [← hm]
  have hm1 : n + 1 ≤ m := by omega
  have hm2 : m ≤ n + 1 := by omega
  have Hm := Lib.hid hm
  clear hm H2
  have hz63 : zeros n ≤ 63 := by unfold zeros; omega
  obtain ⟨pre, hpre⟩ : ∃ pre, pre = l ++ [128] := ⟨_, rfl⟩
  rw [← hpre] at H2m
  have Hpre := Lib.hid hpre
  clear hpre
  go_wp2_with fail
  go_loopw [3] (fun v wr => ∃ (j q : Nat) (a3 : Option Addr) (c3 : Nat), j ≤ zeros n ∧ v = .slice a3 q c3 ∧ q = m + j ∧ Grows w wr (.slice a3 q c3) q (pre ++ List.replicate j 0)) (fun v wr => match v with | .slice _ k _ => m + zeros n - k | _ => 0)
  case atStart => exact ⟨0, m, a2, c2, Nat.zero_le _, rfl, rfl, by simpa using H2m.out⟩
  case round =>
    obtain ⟨j, q, a3, c3, hj, rfl, hq, hgw⟩ := hrel
    have Hg := Lib.hid hgw
    clear hgw H2m
    by_cases hjz : j < zeros n
    · have hmod : (((q : Int) % 64) != 56) = true := by
        rw [bne_iff_ne]; unfold zeros at hjz; omega
      have hqb : q ≤ n + 100 := by omega
      have Hq := Lib.hid hq
      have hqz : q < m + zeros n := by omega
      clear hq
      go_wp2_with (at_builtin; refine wpList_append_any rfl _ _ 24 rfl 5 i0 (.int .u8 0) 1 1 Tryd.underlying24 hi hz0 hz1 hz2 rfl (by decide) (.slice a3 q c3) q (bytes (pre ++ List.replicate j 0)) (.slice (some ⟨wr.heap.size, 0, none⟩) 1 1) 1 (bytes [0]) rfl rfl (Hg.out.1.kept ((Upd.refl (fun _ => False) wr).alloc _) (fun _ _ => id)) (Sl.made _ _ _ _ _ _ _ _ rfl rfl (by omega)) (bytes_one _) (by omega) (by omega) ?_)
      intro a4 c4 w4 hown4 hgr4 hb4
      have Hg4 := Lib.hid (Hg.out.push (x := 0) _ hown4 hgr4 (by simpa using hb4))
      clear hown4 hgr4 hb4
      go_wp2
      go_roundw
      case rel => exact ⟨j + 1, q + 1, a4, c4, hjz, rfl, by rw [Hq.out]; omega, by rw [List.replicate_succ', ← List.append_assoc]; exact Hg4.out⟩
      case measure => simp; omega
    · have hjn : j = zeros n := by omega
      have hmod : (((q : Int) % 64) != 56) = false := by
        rw [bne_eq_false_iff_eq]; unfold zeros at hjn; omega
      have hqb : q ≤ n + 100 := by omega
      obtain ⟨pr, hpr⟩ : ∃ pr, pr = pre ++ List.replicate j 0 := ⟨_, rfl⟩
      have hg := Hg.out
      rw [← hpr] at hg
      have Hg := Lib.hid hg
      have Hpr := Lib.hid hpr
      have Hq := Lib.hid hq
      have Hjn := Lib.hid hjn
      have hw8 : IntKind.u64.wrap (8 * (n : Int)) = 8 * (n : Int) := u64_in' _ (by omega)
      clear hg hpr hq hjn hj hjz
      go_wp2_with fail
      go_loopw [3, 5] (fun v i wq => ∃ (b r : Nat) (a5 : Option Addr) (c5 : Nat), b ≤ 8 ∧ v = .slice a5 r c5 ∧ r = q + b ∧ i = .int .i64 b ∧ Grows w wq (.slice a5 r c5) r (pr ++ be8 (8 * n) b)) (fun _ i _ => 8 - (intOf i).toNat)
      case atStart => exact ⟨0, q, a3, c3, by omega, rfl, rfl, rfl, by simpa [be8] using Hg.out⟩
      case round =>
        rename World => wq
        obtain ⟨b, r, a5, c5, hb, rfl, hr, rfl, hgw⟩ := hrel
        have Hg := Lib.hid hgw
        have Hr := Lib.hid hr
        have hrb : r ≤ n + 108 := by omega
        clear hgw hr
        by_cases hb8 : b < 8
        · obtain ⟨t, ht⟩ : ∃ t, t = 8 * (7 - b) := ⟨_, rfl⟩
          have e1 : (56 : Int) - 8 * (b : Int) = (t : Int) := by omega
          have e2 : IntKind.u64.wrap (t : Int) = (t : Int) := u64_in' _ (by omega)
          obtain ⟨x, hx⟩ : ∃ x, x = UInt8.ofNat (8 * n / 2 ^ t) := ⟨_, rfl⟩
          have ex : ((8 * (n : Int) / 2 ^ t) % 256) = (x.toNat : Int) := by
            rw [hx, UInt8.toNat_ofNat', show (8 * (n : Int) / 2 ^ t) = ((8 * n / 2 ^ t : Nat) : Int) by simp [Int.natCast_ediv, Int.natCast_mul, Int.natCast_pow]]
            omega
          have hbe : be8 (8 * n) (b + 1) = be8 (8 * n) b ++ [x] := by rw [hx, ht]; rfl
          have Hbe := Lib.hid hbe
          have ht64 : t < 64 := by omega
          clear hx hbe ht
          go_wp2_with (at_builtin; refine wpList_append_any rfl _ _ 24 rfl 5 i0 (.int .u8 0) 1 1 Tryd.underlying24 hi hz0 hz1 hz2 rfl (by decide) (.slice a5 r c5) r (bytes (pr ++ be8 (8 * n) b)) (.slice (some ⟨wq.heap.size, 0, none⟩) 1 1) 1 (bytes [x]) rfl rfl (Hg.out.1.kept ((Upd.refl (fun _ => False) wq).alloc _) (fun _ _ => id)) (Sl.made _ _ _ _ _ _ _ _ rfl rfl (by omega)) (bytes_one _) (by omega) (by omega) ?_)
          intro a6 c6 w6 hown6 hgr6 hb6
          have Hg6 := Lib.hid (Hg.out.push (x := x) _ hown6 hgr6 (by simpa using hb6))
          clear hown6 hgr6 hb6
          go_wp2
          go_roundw
          case rel => exact ⟨b + 1, r + 1, a6, c6, hb8, rfl, by rw [Hr.out]; omega, by go_num, by rw [Hbe.out, ← List.append_assoc]; exact Hg6.out⟩
          case measure => simp [intOf]; omega
        · have hb8 : b = 8 := by omega
          have hpd : tailOf l l.length = pr ++ be8 (8 * n) b := by
            rw [hb8, Hpr.out, Hpre.out, Hjn.out, ← Hn.out]
            unfold tailOf
            simp
          have hlen : (tailOf l l.length).length = r := by
            rw [tailOf_length, Hn.out, Hr.out, Hq.out, Hjn.out, Hm.out, hb8]; omega
          have Hpd := Lib.hid hpd
          have Hle := Lib.hid hlen
          clear hpd hlen hb8
          go_wp2
          go_ret
          exact ⟨a5, r, c5, rfl, Hle.out, by rw [Hpd.out]; exact Hg.out⟩
end Go.Proofs.YtefobboakikpbaaDoor
