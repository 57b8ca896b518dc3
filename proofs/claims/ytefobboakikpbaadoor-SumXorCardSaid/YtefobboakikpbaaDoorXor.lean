/- The law SumXor, walked. -/
import Derived.Test.YtefobboakikpbaaDoorKn
import Derived.Test.YtefobboakikpbaaDoorCrcLaw
import Derived.Deep.RegionHeldLaw
namespace Go.Proofs.YtefobboakikpbaaDoor
open Go.RowKit
set_option linter.unusedVariables false
set_option linter.unusedSimpArgs false

theorem min_fact (a b : Nat) : (if b < a then ((b : Nat) : Int) else ((a : Nat) : Int)) = ((min a b : Nat) : Int) := by
  split <;> omega

/-- The xor of three texts' first bytes. -/
def xorTo (a b c : List UInt8) (k : Nat) : List UInt8 := (List.range k).map fun i => (a.getD i 0 ^^^ b.getD i 0) ^^^ c.getD i 0
theorem xorTo_length (a b c : List UInt8) (k : Nat) : (xorTo a b c k).length = k := by simp [xorTo]
theorem xorTo_succ (a b c : List UInt8) (k : Nat) : xorTo a b c (k + 1) = xorTo a b c k ++ [(a.getD k 0 ^^^ b.getD k 0) ^^^ c.getD k 0] := by simp [xorTo, List.range_succ]
theorem xor8_step (a b : Nat) (ha : a < 256) (hb : b < 256) : ∃ t : Nat, t = a ^^^ b ∧ t < 256 ∧ bits BinOp.xor IntKind.u8 (a : Int) (b : Int) = (t : Int) := ⟨_, rfl, Nat.xor_lt_two_pow (n := 8) ha hb, u8_xor_nat _ _ ha hb⟩

theorem crc_quiet (w : World) (n m : Nat) (hf : FoursAt w) (a : Option Addr) (c : Nat) (l : List UInt8) (hl : Sl w 1 (.slice a n c) n (bytes l)) (hn : l.length = n) :
    Calls Tryd.prog 31 #[.slice a n c] (w.drewN m) fun e w' => e = .returned (.int .u32 (crc l : Nat)) ∧ ∃ k, w' = w.drewN k := by
  subst hn
  exact (crc_same (w.drewN m) (hf.kept ((Upd.refl (fun _ => False) w).drewN m) id) a c l (hl.kept ((Upd.refl (fun _ => False) w).drewN m) (fun _ _ _ => id))).mono fun _ _ ⟨he, hw⟩ => ⟨he, m, hw⟩

set_option maxHeartbeats 2000000 in
set_option maxRecDepth 100000 in
theorem xor_any (w : World) (hk : KeysAt w) (hbg : BeginAt w) (hf : FoursAt w) (a0 a1 a2 : Option Addr) (c0 c1 c2 : Nat) (l0 l1 l2 : List UInt8)
    (h0 : Sl w 1 (.slice a0 l0.length c0) l0.length (bytes l0)) (h1 : Sl w 1 (.slice a1 l1.length c1) l1.length (bytes l1)) (h2 : Sl w 1 (.slice a2 l2.length c2) l2.length (bytes l2)) (k0 : l0.length ≤ c0) (k1 : l1.length ≤ c1) (k2 : l2.length ≤ c2) :
    Calls Tryd.prog 8 #[.slice a0 l0.length c0, .slice a1 l1.length c1, .slice a2 l2.length c2] w fun e w' => e = .returned (.bool true) ∧ Below w.heap.size w w' := by
  obtain ⟨i0, hi, hz0, hz1, hz2⟩ := info_parts info_byte
  obtain ⟨n0, hn0⟩ : ∃ n, n = l0.length := ⟨_, rfl⟩
  obtain ⟨n1, hn1⟩ : ∃ n, n = l1.length := ⟨_, rfl⟩
  obtain ⟨n2, hn2⟩ : ∃ n, n = l2.length := ⟨_, rfl⟩
  have b0 : n0 ≤ 9223372036854775807 := by obtain ⟨_, _, _, _, h, _⟩ := h0; omega
  have b1 : n1 ≤ 9223372036854775807 := by obtain ⟨_, _, _, _, h, _⟩ := h1; omega
  have b2 : n2 ≤ 9223372036854775807 := by obtain ⟨_, _, _, _, h, _⟩ := h2; omega
  obtain ⟨M, hM⟩ : ∃ M, M = min n1 n2 := ⟨_, rfl⟩
  obtain ⟨N, hN⟩ : ∃ N, N = min n0 M := ⟨_, rfl⟩
  have m1 := min_fact n1 n2
  rw [← hM] at m1
  have m0 := min_fact n0 M
  rw [← hN] at m0
  have e0 : N ≤ n0 := by omega
  have e1 : N ≤ n1 := by omega
  have e2 : N ≤ n2 := by omega
  have hMb : M ≤ 9223372036854775807 := by omega
  rw [← hn0] at h0 k0 ⊢
  rw [← hn1] at h1 k1 ⊢
  rw [← hn2] at h2 k2 ⊢
  have Hk := Lib.hid hk
  have Hbg := Lib.hid hbg
  have Hf := Lib.hid hf
  have H0 := Lib.hid h0
  have H1 := Lib.hid h1
  have H2 := Lib.hid h2
  have HN := Lib.hid (show N = min l0.length (min l1.length l2.length) by rw [hN, hM, hn0, hn1, hn2])
  have Hn0 := Lib.hid hn0
  have Hn1 := Lib.hid hn1
  have Hn2 := Lib.hid hn2
  clear hk hbg hf h0 h1 h2 hn0 hn1 hn2 hN hM
  by_cases hlong : 32768 < N
  · go_enter Tryd.func8, Tryd.ntmps8
    go_wp2
    go_ret
    exact ⟨rfl, Below.refl _ _⟩
  · go_enter Tryd.func8, Tryd.ntmps8
    go_wp2_with fail
    refine (known_any w Hk.out Hbg.out Hf.out).mono ?_
    rintro e w1 ⟨rfl, hb1⟩
    have Hb1 := Lib.hid hb1
    clear hb1
    go_wp2_with fail
    rw [show decide (32768 < (N : Int)) = false by simp; omega]
    go_loopw [8, 9] (fun v i wr => ∃ (k : Nat) (a : Option Addr) (c : Nat), k ≤ N ∧ i = .int .i64 k ∧ v = .slice a k c ∧ Own wr 5 1 (.slice a k c) k (bytes (xorTo l0 l1 l2 k)) ∧
        (∀ b, (Value.slice a k c).ownBlock = some b → w.heap.size ≤ b) ∧ Below w.heap.size w wr) (fun _ i _ => N - (intOf i).toNat)
    case atStart => exact ⟨0, none, 0, Nat.zero_le _, rfl, rfl, Own.nil _ _ _, by simp [Value.ownBlock], Hb1.out⟩
    case round =>
      obtain ⟨k, a, c, hk, rfl, rfl, hown, hob, hbe⟩ := hrel
      have Hown := Lib.hid hown
      have Hob := Lib.hid hob
      have Hbe := Lib.hid hbe
      clear hown hob hbe
      by_cases hlt : k < N
      · have g0 := H0.out.below Hbe.out
        have g1 := H1.out.below Hbe.out
        have g2 := H2.out.below Hbe.out
        have q0 := Hn0.out
        have q1 := Hn1.out
        have q2 := Hn2.out
        have hlt3 := fun {n c : Nat} {a : Option Addr} {l : List UInt8} (h : Sl w 1 (.slice a n c) n (bytes l)) (hl : 0 < l.length) (p o : Nat) (e : a = some ⟨p, o, none⟩) => (show p < w.heap.size by
          obtain ⟨p', o', e', hp, _⟩ := h.open_ (by rw [bytes_length]; exact hl)
          rw [e] at e'; injection e' with e'; injection e' with e'; omega)
        obtain ⟨p0, o0, rfl, _, f0⟩ := g0.open_ (by rw [bytes_length]; omega)
        obtain ⟨p1, o1, rfl, _, f1⟩ := g1.open_ (by rw [bytes_length]; omega)
        obtain ⟨p2, o2, rfl, _, f2⟩ := g2.open_ (by rw [bytes_length]; omega)
        have s0 : p0 < w.heap.size := hlt3 H0.out (by omega) _ _ rfl
        have s1 : p1 < w.heap.size := hlt3 H1.out (by omega) _ _ rfl
        have s2 : p2 < w.heap.size := hlt3 H2.out (by omega) _ _ rfl
        have f0 := f0 k _ (bytes_getD l0 k (by omega))
        have f1 := f1 k _ (bytes_getD l1 k (by omega))
        have f2 := f2 k _ (bytes_getD l2 k (by omega))
        obtain ⟨x0, hx0⟩ : ∃ x, x = (l0.getD k 0).toNat := ⟨_, rfl⟩
        obtain ⟨x1, hx1⟩ : ∃ x, x = (l1.getD k 0).toNat := ⟨_, rfl⟩
        obtain ⟨x2, hx2⟩ : ∃ x, x = (l2.getD k 0).toNat := ⟨_, rfl⟩
        have d0 : x0 < 256 := by rw [hx0]; exact UInt8.toNat_lt _
        have d1 : x1 < 256 := by rw [hx1]; exact UInt8.toNat_lt _
        have d2 : x2 < 256 := by rw [hx2]; exact UInt8.toNat_lt _
        rw [← hx0] at f0
        rw [← hx1] at f1
        rw [← hx2] at f2
        obtain ⟨y, hy, ly, qy⟩ := xor8_step x0 x1 d0 d1
        obtain ⟨z, hz, lz, qz⟩ := xor8_step y x2 ly d2
        have hzb : #[Value.int .u8 (z : Int)].toList = bytes [(l0.getD k 0 ^^^ l1.getD k 0) ^^^ l2.getD k 0] := by
          rw [hz, hy, hx0, hx1, hx2]; simp [bytes, UInt8.toNat_xor]
        have Hzb := Lib.hid hzb
        have r0 : (0 : Int) ≤ (k : Int) := by omega
        have r1 : (k : Int) < (n0 : Int) := by omega
        have r2 : (k : Int) < (n1 : Int) := by omega
        have r3 : (k : Int) < (n2 : Int) := by omega
        clear hlt3 g0 g1 g2 q0 q1 q2 hx0 hx1 hx2 hy hz hzb
        go_wp2_with fail
        go_region_held_law (fun w' => w'.cell? ⟨p0, o0 + k, none⟩ = some (.int .u8 x0) ∧ w'.cell? ⟨p1, o1 + k, none⟩ = some (.int .u8 x1) ∧ w'.cell? ⟨p2, o2 + k, none⟩ = some (.int .u8 x2))
          (first | exact K3.out | go_keep)
          ((refine step_append_any rfl _ _ 24 rfl 5 i0 (.int .u8 0) 1 1 Tryd.underlying24 hi hz0 hz1 hz2 rfl (by decide) (.slice a k c) k (bytes (xorTo l0 l1 l2 k)) (.slice (some ⟨wr.heap.size, 0, none⟩) 1 1) 1 (bytes [(l0.getD k 0 ^^^ l1.getD k 0) ^^^ l2.getD k 0]) rfl rfl
              (Hown.out.kept ((Upd.refl (fun _ => False) wr).alloc _).drew (fun _ _ => id)) ((Sl.made wr 5 1 1 1 _ _ _ Hzb.out rfl (by omega)).kept (Upd.refl (fun _ => False) _).drew (fun _ _ _ => id)) (bytes_one _) (by omega) (by omega) ?_
            intro a4 c4 w4 hown4 hgr4 hb4
            have hu4 : Upd (fun b => w.heap.size ≤ b) wr w4 := Upd.grown ((Upd.refl _ wr).alloc _).drew hgr4 (fun b hb _ => Hob.out b hb)
            have K3 := Lib.hid (And.intro (hu4.cell f0 (Nat.not_le.2 s0)) (And.intro (hu4.cell f1 (Nat.not_le.2 s1)) (hu4.cell f2 (Nat.not_le.2 s2))))
            have Hu4 := Lib.hid hu4
            have Hown4 := Lib.hid hown4
            have Hb4 := Lib.hid hb4
            clear hu4 hown4 hb4 hgr4))
        go_wp2
        go_roundw
        case rel =>
          refine ⟨k + 1, a4, c4, hlt, by go_num, rfl, ?_, ?_, Hbe.out.upd (Nat.le_refl _) Hu4.out (fun _ h => h)⟩
          · have h := Hown4.out
            rw [← bytes_append, ← xorTo_succ] at h
            exact h
          · intro b hb
            by_cases hbb : (Value.slice a k c).ownBlock = some b
            · exact Hob.out b hbb
            · have h1 := Hb4.out b hbb hb
              have h2 := Hbe.out.size
              simp at h1; omega
        case measure => simp [intOf]; omega
      · have hkN : k = N := by omega
        subst hkN
        have Hx := Lib.hid Hown.out.sl
        have y0 := (H0.out.below Hbe.out).to e0
        have y1 := (H1.out.below Hbe.out).to e1
        have y2 := (H2.out.below Hbe.out).to e2
        have Hy0 := Lib.hid y0
        have Hy1 := Lib.hid y1
        have Hy2 := Lib.hid y2
        have t0 : (l0.take k).length = k := by rw [List.length_take, ← Hn0.out]; omega
        have t1 : (l1.take k).length = k := by rw [List.length_take, ← Hn1.out]; omega
        have t2 : (l2.take k).length = k := by rw [List.length_take, ← Hn2.out]; omega
        have Ht0 := Lib.hid t0
        have Ht1 := Lib.hid t1
        have Ht2 := Lib.hid t2
        have Hfr := Lib.hid (Hf.out.below Hbe.out)
        have hx3 : crc (xorTo l0 l1 l2 k) = (crc (l0.take k) ^^^ crc (l1.take k)) ^^^ crc (l2.take k) := by
          rw [← crc_xor3 l0 l1 l2 k HN.out]
          unfold xorTo xor3
          rw [← HN.out]
        obtain ⟨u0, hu0⟩ : ∃ u, u = crc (l0.take k) := ⟨_, rfl⟩
        obtain ⟨u1, hu1⟩ : ∃ u, u = crc (l1.take k) := ⟨_, rfl⟩
        obtain ⟨u2, hu2⟩ : ∃ u, u = crc (l2.take k) := ⟨_, rfl⟩
        have v0 : u0 < 4294967296 := by rw [hu0]; exact crc_lt _
        have v1 : u1 < 4294967296 := by rw [hu1]; exact crc_lt _
        have v2 : u2 < 4294967296 := by rw [hu2]; exact crc_lt _
        rw [← hu0, ← hu1, ← hu2] at hx3
        obtain ⟨y, hy, ly, qy⟩ := xor32_step u0 u1 v0 v1
        obtain ⟨z, hz, lz, qz⟩ := xor32_step y u2 ly v2
        have hxz : crc (xorTo l0 l1 l2 k) = z := by rw [hx3, hz, hy]
        have Hu0 := Lib.hid hu0
        have Hu1 := Lib.hid hu1
        have Hu2 := Lib.hid hu2
        have Hxz := Lib.hid hxz
        have hxl : (xorTo l0 l1 l2 k).length = k := xorTo_length _ _ _ _
        have Hxl := Lib.hid hxl
        clear y0 y1 y2 t0 t1 t2 hx3 hu0 hu1 hu2 hxz hxl hy hz m0 m1
        have r0 : (k : Int) ≤ (n0 : Int) := by omega
        have r1 : (k : Int) ≤ (n1 : Int) := by omega
        have r2 : (k : Int) ≤ (n2 : Int) := by omega
        have j0 : (k : Int) ≤ (c0 : Int) := by omega
        have j1 : (k : Int) ≤ (c1 : Int) := by omega
        have j2 : (k : Int) ≤ (c2 : Int) := by omega
        have j3 : (0 : Int) ≤ (k : Int) := by omega
        have HQ0 : Hid (∀ m, Calls Tryd.prog 31 #[.slice a0 k c0] (wr.drewN m) fun e w' => e = .returned (.int .u32 (u0 : Nat)) ∧ ∃ j, w' = wr.drewN j) := fun m => by rw [Hu0.out]; exact crc_quiet wr k m Hfr.out a0 c0 (l0.take k) Hy0.out Ht0.out
        have HQ1 : Hid (∀ m, Calls Tryd.prog 31 #[.slice a1 k c1] (wr.drewN m) fun e w' => e = .returned (.int .u32 (u1 : Nat)) ∧ ∃ j, w' = wr.drewN j) := fun m => by rw [Hu1.out]; exact crc_quiet wr k m Hfr.out a1 c1 (l1.take k) Hy1.out Ht1.out
        have HQ2 : Hid (∀ m, Calls Tryd.prog 31 #[.slice a2 k c2] (wr.drewN m) fun e w' => e = .returned (.int .u32 (u2 : Nat)) ∧ ∃ j, w' = wr.drewN j) := fun m => by rw [Hu2.out]; exact crc_quiet wr k m Hfr.out a2 c2 (l2.take k) Hy2.out Ht2.out
        have HQ3 : Hid (∀ m, Calls Tryd.prog 31 #[.slice a k c] (wr.drewN m) fun e w' => e = .returned (.int .u32 (z : Nat)) ∧ ∃ j, w' = wr.drewN j) := fun m => by rw [← Hxz.out]; exact crc_quiet wr k m Hfr.out a c (xorTo l0 l1 l2 k) Hx.out Hxl.out
        go_wp2_with fail
        go_quiet (first
          | (go_at_call_of 31 a0; exact HQ0.out _)
          | (go_at_call_of 31 a1; exact HQ1.out _)
          | (go_at_call_of 31 a2; exact HQ2.out _)
          | (go_at_call_of 31 a; exact HQ3.out _))
        go_wp2
        go_ret
        exact ⟨rfl, Hbe.out.upd (Nat.le_refl _) ((Upd.refl (fun _ => False) _).drewN nq) (fun _ h => h.elim)⟩
end Go.Proofs.YtefobboakikpbaaDoor
