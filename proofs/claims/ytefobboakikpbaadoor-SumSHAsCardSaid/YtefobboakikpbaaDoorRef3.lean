/- The reference's block. -/
import Derived.Test.YtefobboakikpbaaDoorRef2
import Derived.Deep.RegionHeld3
import Derived.Deep.RegionHeldLaw
namespace Go.Proofs.YtefobboakikpbaaDoor
open Go.RowKit
set_option linter.unusedVariables false
set_option linter.unusedSimpArgs false

theorem keys_lt (k : Nat) : keys.getD k 0 < 4294967296 := by
  rcases Nat.lt_or_ge k 64 with h | h
  · have : ∀ j, j < 64 → keys.getD j 0 < 4294967296 := by decide +kernel
    exact this k h
  · rw [List.getD_eq_getElem?_getD, List.getElem?_eq_none (by exact h)]; decide
theorem stList_lt {u : St} (h : u.Ok) (j : Nat) : (stList u).getD j 0 < 4294967296 := by
  rcases (by omega : j = 0 ∨ j = 1 ∨ j = 2 ∨ j = 3 ∨ j = 4 ∨ j = 5 ∨ j = 6 ∨ j = 7 ∨ 8 ≤ j) with rfl | rfl | rfl | rfl | rfl | rfl | rfl | rfl | hj
  · exact h.a
  · exact h.b
  · exact h.c
  · exact h.d
  · exact h.e
  · exact h.f
  · exact h.g
  · exact h.h
  · rw [List.getD_eq_getElem?_getD, List.getElem?_eq_none (by exact hj)]; decide
theorem stList_add_take (s r : St) (j : Nat) (h : j < 8) : (stList (s.add r)).take (j + 1) = (stList (s.add r)).take j ++ [((stList s).getD j 0 + (stList r).getD j 0) % 4294967296] := by
  rcases (by omega : j = 0 ∨ j = 1 ∨ j = 2 ∨ j = 3 ∨ j = 4 ∨ j = 5 ∨ j = 6 ∨ j = 7) with rfl | rfl | rfl | rfl | rfl | rfl | rfl | rfl <;> rfl
theorem cells8 {w : World} {g off c : Nat} {r : St} (h : Sl w 1 (.slice (some ⟨g, off, none⟩) 8 c) 8 (nums64 (stList r))) :
    w.cell? ⟨g, off, none⟩ = some (.int .u64 (r.a : Nat)) ∧ w.cell? ⟨g, off + 1, none⟩ = some (.int .u64 (r.b : Nat)) ∧ w.cell? ⟨g, off + 2, none⟩ = some (.int .u64 (r.c : Nat)) ∧ w.cell? ⟨g, off + 3, none⟩ = some (.int .u64 (r.d : Nat)) ∧
    w.cell? ⟨g, off + 4, none⟩ = some (.int .u64 (r.e : Nat)) ∧ w.cell? ⟨g, off + 5, none⟩ = some (.int .u64 (r.f : Nat)) ∧ w.cell? ⟨g, off + 6, none⟩ = some (.int .u64 (r.g : Nat)) ∧ w.cell? ⟨g, off + 7, none⟩ = some (.int .u64 (r.h : Nat)) := by
  obtain ⟨g', off', e, _, hc⟩ := h.open_ (by rw [nums64_length]; exact (by decide : 0 < 8))
  injection e with e
  injection e with e1 e2
  subst e1 e2
  exact ⟨hc 0 _ rfl, hc 1 _ rfl, hc 2 _ rfl, hc 3 _ rfl, hc 4 _ rfl, hc 5 _ rfl, hc 6 _ rfl, hc 7 _ rfl⟩

set_option maxHeartbeats 4000000 in
set_option maxRecDepth 100000 in
theorem refBlock_any (w : World) (ah ak ab : Option Addr) (ch ck cb : Nat) (s : St) (hso : s.Ok) (b : List UInt8) (hh : Sl w 1 (.slice ah 8 ch) 8 (nums64 (stList s))) (hk : Sl w 1 (.slice ak 64 ck) 64 (nums64 keys)) (hb : Sl w 1 (.slice ab 64 cb) 64 (bytes b)) (hl : b.length = 64) :
    Calls Tryd.prog 48 #[.slice ah 8 ch, .slice ak 64 ck, .slice ab 64 cb] w fun e w' => ∃ (a' : Option Addr) (c' : Nat), e = .returned (.slice a' 8 c') ∧ Own w' 90 1 (.slice a' 8 c') 8 (nums64 (stList (blockOf s b))) ∧ (∀ g, (Value.slice a' 8 c').ownBlock = some g → w.heap.size ≤ g) ∧ Below w.heap.size w w' := by
  obtain ⟨i0, hi, hz0, hz1, hz2⟩ := info_parts info_u64
  have Hh := Lib.hid hh
  have Hk := Lib.hid hk
  have Hb := Lib.hid hb
  have Hl := Lib.hid hl
  clear hh hk hb hl
  go_enter Tryd.func48, Tryd.ntmps48
  go_wp2_with fail
  refine (refWords_any w ab cb b Hb.out Hl.out).mono ?_
  rintro e w1 ⟨aw, cw, rfl, hown1, hob1, hb1⟩
  have Hw := Lib.hid hown1.sl
  have Hb1 := Lib.hid hb1
  clear hown1 hob1 hb1
  go_wp2_with (at_builtin; refine wpList_append_any rfl _ _ 98 rfl 90 i0 (.int .u64 0) 1 8 Tryd.underlying98 hi hz0 hz1 hz2 rfl (by decide) (.slice none 0 0) 0 [] _ 8 (nums64 (stList s)) rfl rfl (Own.nil _ _ _) (Hh.out.below Hb1.out) (nums64_one _) (by omega) (by omega) ?_)
  intro av cv w2 hown2 hgr2 hbb2
  have Hb2 := Lib.hid (Hb1.out.grown hgr2 Hb1.out.size (by simp [Value.ownBlock]))
  have Hw2 := Lib.hid (Hw.out.kept ((Upd.refl (fun _ => False) _).grown hgr2 (by simp [Value.ownBlock])) (fun _ _ _ => id))
  have Hv2 := Lib.hid hown2.sl
  clear hown2 hgr2 hbb2 Hw Hb1
  go_wp2_with fail
  go_loopw [8, 9] (fun v i wr => ∃ (k : Nat) (a5 : Option Addr) (c5 : Nat), k ≤ 64 ∧ i = .int .i64 k ∧ v = .slice a5 8 c5 ∧ Sl wr 1 (.slice a5 8 c5) 8 (nums64 (stList (rounds keys (sched b 64) s k))) ∧ Below w2.heap.size w2 wr) (fun _ i _ => 64 - (intOf i).toNat)
  case atStart => exact ⟨0, av, cv, Nat.zero_le _, rfl, rfl, Hv2.out, Below.refl _ _⟩
  case round =>
    obtain ⟨k, a5, c5, hk, rfl, rfl, hvs, hbe⟩ := hrel
    by_cases hlt : k < 64
    · obtain ⟨r, hr⟩ : ∃ r, r = rounds keys (sched b 64) s k := ⟨_, rfl⟩
      have hro : r.Ok := by rw [hr]; exact hso.rounds _ _ _
      rw [← hr] at hvs
      obtain ⟨gv, ov, rfl, _, _⟩ := hvs.open_ (by rw [nums64_length]; exact (by decide : 0 < 8))
      obtain ⟨gk, ok, rfl, _, hck⟩ := ((Hk.out.below Hb2.out).below hbe).open_ (by rw [nums64_length]; decide)
      obtain ⟨gw, ow, rfl, _, hcw⟩ := (Hw2.out.below hbe).open_ (by rw [nums64_length, sched_length]; decide)
      have fk := hck k _ (nums64_get keys k hlt)
      have fw := hcw k _ (nums64_get (sched b 64) k (by rw [sched_length]; exact hlt))
      obtain ⟨kt, hkt⟩ : ∃ x, x = keys.getD k 0 := ⟨_, rfl⟩
      obtain ⟨wt, hwt⟩ : ∃ x, x = (sched b 64).getD k 0 := ⟨_, rfl⟩
      have lkt : kt < 4294967296 := by rw [hkt]; exact keys_lt k
      have lwt : wt < 4294967296 := by rw [hwt]; exact sched_getD_lt _ _ _
      rw [← hkt] at fk
      rw [← hwt] at fw
      obtain ⟨f0, f1, f2, f3, f4, f5, f6, f7⟩ := cells8 hvs
      have hnext : rounds keys (sched b 64) s (k + 1) = r.round kt wt := by rw [hr, hkt, hwt]; rfl
      have Hnext := Lib.hid hnext
      have Hvs := Lib.hid hvs
      have Hbe := Lib.hid hbe
      obtain ⟨ra, rb, rc, rd, re, rf, rg, rh⟩ := r
      obtain ⟨la, lb, lc, ld, le, lf, lg, lh⟩ := hro
      simp only at la lb lc ld le lf lg lh f0 f1 f2 f3 f4 f5 f6 f7
      have hr0 : (0 : Int) ≤ (k : Int) := by omega
      have hr1 : (k : Int) < 64 := by omega
      obtain ⟨v1, d_v1, l_v1, q_v1⟩ := xor64_step (rotr re 6) (rotr re 11) (rotr_lt _ _ le) (rotr_lt _ _ le)
      obtain ⟨v2, d_v2, l_v2, q_v2⟩ := xor64_step v1 (rotr re 25) l_v1 (rotr_lt _ _ le)
      obtain ⟨n1, d_n1⟩ : ∃ n, n = 4294967295 - re := ⟨_, rfl⟩
      have l_n1 : n1 < 4294967296 := by omega
      have q_n1 : (4294967295 : Int) - (re : Int) = (n1 : Int) := by omega
      have q_n2 : IntKind.u64.wrap ((4294967295 : Int) - (re : Int)) = (n1 : Int) := by rw [q_n1]; exact u64_in' _ (by omega)
      have q_n3 : IntKind.u64.wrap (n1 : Int) = (n1 : Int) := u64_in' _ (by omega)
      obtain ⟨c1, d_c1, l_c1, q_c1⟩ := and64_step re rf le lf
      obtain ⟨c2, d_c2, l_c2, q_c2⟩ := and64_step n1 rg l_n1 lg
      obtain ⟨c3, d_c3, l_c3, q_c3⟩ := xor64_step c1 c2 l_c1 l_c2
      obtain ⟨v3, d_v3, l_v3, q_v3⟩ := xor64_step (rotr ra 2) (rotr ra 13) (rotr_lt _ _ la) (rotr_lt _ _ la)
      obtain ⟨z1, d_z1, l_z1, q_z1⟩ := xor64_step v3 (rotr ra 22) l_v3 (rotr_lt _ _ la)
      obtain ⟨m1, d_m1, l_m1, q_m1⟩ := and64_step ra rb la lb
      obtain ⟨m2, d_m2, l_m2, q_m2⟩ := and64_step ra rc la lc
      obtain ⟨m3, d_m3, l_m3, q_m3⟩ := xor64_step m1 m2 l_m1 l_m2
      obtain ⟨m4, d_m4, l_m4, q_m4⟩ := and64_step rb rc lb lc
      obtain ⟨m5, d_m5, l_m5, q_m5⟩ := xor64_step m3 m4 l_m3 l_m4
      have w1 : IntKind.u64.wrap ((rh : Int) + (v2 : Int)) = (rh : Int) + (v2 : Int) := u64_in' _ (by omega)
      have w2' : IntKind.u64.wrap ((rh : Int) + (v2 : Int) + (c3 : Int)) = (rh : Int) + (v2 : Int) + (c3 : Int) := u64_in' _ (by omega)
      have w3 : IntKind.u64.wrap ((rh : Int) + (v2 : Int) + (c3 : Int) + (kt : Int)) = (rh : Int) + (v2 : Int) + (c3 : Int) + (kt : Int) := u64_in' _ (by omega)
      have w4 : IntKind.u64.wrap ((rh : Int) + (v2 : Int) + (c3 : Int) + (kt : Int) + (wt : Int)) = (rh : Int) + (v2 : Int) + (c3 : Int) + (kt : Int) + (wt : Int) := u64_in' _ (by omega)
      obtain ⟨x, d_x⟩ : ∃ x, x = (rh + v2 + c3 + kt + wt) % 4294967296 := ⟨_, rfl⟩
      have l_x : x < 4294967296 := by rw [d_x]; exact Nat.mod_lt _ (by decide)
      have q_x : ((rh : Int) + (v2 : Int) + (c3 : Int) + (kt : Int) + (wt : Int)).tmod 4294967296 = (x : Int) := by rw [d_x]; rfl
      have w5 : IntKind.u64.wrap ((z1 : Int) + (m5 : Int)) = (z1 : Int) + (m5 : Int) := u64_in' _ (by omega)
      have w6 : IntKind.u64.wrap ((x : Int) + ((z1 : Int) + (m5 : Int))) = (x : Int) + ((z1 : Int) + (m5 : Int)) := u64_in' _ (by omega)
      have w7 : IntKind.u64.wrap ((rd : Int) + (x : Int)) = (rd : Int) + (x : Int) := u64_in' _ (by omega)
      obtain ⟨p, d_p⟩ : ∃ p, p = (x + (z1 + m5)) % 4294967296 := ⟨_, rfl⟩
      have q_p : ((x : Int) + ((z1 : Int) + (m5 : Int))).tmod 4294967296 = (p : Int) := by rw [d_p]; rfl
      obtain ⟨q, d_q⟩ : ∃ q, q = (rd + x) % 4294967296 := ⟨_, rfl⟩
      have q_q : ((rd : Int) + (x : Int)).tmod 4294967296 = (q : Int) := by rw [d_q]; rfl
      have hround : (St.mk ra rb rc rd re rf rg rh).round kt wt = ⟨p, ra, rb, rc, q, re, rf, rg⟩ := by
        have hb1 : big1 re = v2 := by rw [d_v2, d_v1]; rfl
        have hch : choose re rf rg = c3 := by rw [d_c3, d_c1, d_c2, d_n1]; rfl
        have hb0 : big0 ra = z1 := by rw [d_z1, d_v3]; rfl
        have hmo : most ra rb rc = m5 := by rw [d_m5, d_m3, d_m1, d_m2, d_m4]; rfl
        have hx2 : x = (rh + big1 re + choose re rf rg + kt + wt) % 4294967296 := by rw [hb1, hch, d_x]
        unfold St.round
        simp only [← hx2, hb0, hmo, d_p, d_q, St.mk.injEq, true_and, and_true]
        omega
      have Hround := Lib.hid hround
      clear hround d_v1 d_v2 d_n1 d_c1 d_c2 d_c3 d_v3 d_z1 d_m1 d_m2 d_m3 d_m4 d_m5 d_x d_p d_q hck hcw hkt hwt hr hnext hvs hbe
      go_wp2_with fail
      refine (turn_6 re le _).mono ?_
      rintro e w' ⟨rfl, hw⟩
      obtain rfl := hw.symm
      go_wp2_with fail
      refine (turn_11 re le _).mono ?_
      rintro e w' ⟨rfl, hw⟩
      obtain rfl := hw.symm
      go_wp2_with fail
      refine (turn_25 re le _).mono ?_
      rintro e w' ⟨rfl, hw⟩
      obtain rfl := hw.symm
      go_wp2_with fail
      go_quiet (fail)
      generalize hwq : wr.drewN nq = wq
      have Hupwq : Hid (Upd (fun _ => False) wr wq) := by rw [← hwq]; exact (Upd.refl _ _).drewN nq
      clear hwq f0 f1 f2 f3 f4 f5 f6 f7 fk fw
      have Hvs := Lib.hid (Hvs.out.kept Hupwq.out (fun _ _ _ => id))
      obtain ⟨f0, f1, f2, f3, f4, f5, f6, f7⟩ := cells8 Hvs.out
      have Hbe := Lib.hid (Hbe.out.upd (Nat.le_refl _) Hupwq.out (fun _ h => h.elim))
      go_wp2_with fail
      go_quiet (first
        | (go_at_call_of 66 (2 : Int); exact (turn_2 ra la _).mono fun _ _ ⟨he, hw⟩ => ⟨he, _, hw⟩)
        | (go_at_call_of 66 (13 : Int); exact (turn_13 ra la _).mono fun _ _ ⟨he, hw⟩ => ⟨he, _, hw⟩)
        | (go_at_call_of 66 (22 : Int); exact (turn_22 ra la _).mono fun _ _ ⟨he, hw⟩ => ⟨he, _, hw⟩))
      generalize hwq : wq.drewN nq = wz
      have Hupwz : Hid (Upd (fun _ => False) wq wz) := by rw [← hwq]; exact (Upd.refl _ _).drewN nq
      clear hwq f0 f1 f2 f3 f4 f5 f6 f7
      have Hvs := Lib.hid (Hvs.out.kept Hupwz.out (fun _ _ _ => id))
      obtain ⟨f0, f1, f2, f3, f4, f5, f6, f7⟩ := cells8 Hvs.out
      have Hbe := Lib.hid (Hbe.out.upd (Nat.le_refl _) Hupwz.out (fun _ h => h.elim))
      go_wp2_with fail
      go_region_held3 (fun w' => w'.cell? ⟨gv, ov + 1, none⟩ = some (.int .u64 (rb : Nat)) ∧ w'.cell? ⟨gv, ov + 2, none⟩ = some (.int .u64 (rc : Nat)) ∧ w'.cell? ⟨gv, ov + 3, none⟩ = some (.int .u64 (rd : Nat)) ∧ w'.cell? ⟨gv, ov + 5, none⟩ = some (.int .u64 (rf : Nat)) ∧ w'.cell? ⟨gv, ov + 6, none⟩ = some (.int .u64 (rg : Nat))) (go_keep) (fail)
      go_wp2
      go_roundw
      case rel =>
        refine ⟨k + 1, _, _, by omega, by go_num, rfl, ?_, ?_⟩
        · rw [Hnext.out, Hround.out]
          exact (Sl.made wz 90 1 8 8 _ (0, 0) _ rfl rfl (by decide)).kept (Upd.refl (fun _ => False) _).drew (fun _ _ _ => id)
        · exact (Hbe.out.alloc Hbe.out.size _).drew
      case measure => simp [intOf]; omega
    · have hk64 : k = 64 := by omega
      obtain ⟨r, hr⟩ : ∃ r, r = rounds keys (sched b 64) s 64 := ⟨_, rfl⟩
      have hro : r.Ok := by rw [hr]; exact hso.rounds _ _ _
      rw [hk64, ← hr] at hvs
      have hbo : blockOf s b = s.add r := by rw [hr]; rfl
      have Hvs := Lib.hid hvs
      have Hbw := Lib.hid (Hb2.out.trans (hbe.mono Hb2.out.size))
      have Hbo := Lib.hid hbo
      obtain ⟨F, hF⟩ : ∃ F, F = wr.heap.size := ⟨_, rfl⟩
      have hFw : w.heap.size ≤ F := by rw [hF]; exact Hbw.out.size
      have HF := Lib.hid hF
      obtain ⟨W0, hW0⟩ : ∃ W0, W0 = wr := ⟨_, rfl⟩
      subst hW0
      clear hvs hbe hbo hr hF Hv2 hlt hk
      go_wp2_with fail
      clear hk64
      have HFs := Lib.hid (show F ≤ W0.heap.size by rw [HF.out]; exact Nat.le_refl _)
      go_loopw [16, 17] (fun o i wr => ∃ (j : Nat) (a6 : Option Addr) (c6 : Nat), j ≤ 8 ∧ i = .int .i64 j ∧ o = .slice a6 j c6 ∧ Own wr 90 1 (.slice a6 j c6) j (nums64 ((stList (s.add r)).take j)) ∧ (∀ g, (Value.slice a6 j c6).ownBlock = some g → F ≤ g) ∧ Below W0.heap.size W0 wr) (fun _ i _ => 8 - (intOf i).toNat)
      case atStart => exact ⟨0, none, 0, Nat.zero_le _, rfl, rfl, Own.nil _ _ _, by simp [Value.ownBlock], Below.refl _ _⟩
      case round =>
        obtain ⟨j, a6, c6, hj, rfl, rfl, hown, hob, hbe⟩ := hrel
        have Hown := Lib.hid hown
        have Hob := Lib.hid hob
        have Hbe := Lib.hid hbe
        clear hown hob hbe
        by_cases hlt : j < 8
        · obtain ⟨gh, oh, rfl, hgh, hch⟩ := Hh.out.open_ (by rw [nums64_length]; exact (by decide : 0 < 8))
          obtain ⟨gv, ov, rfl, hgv, hcv⟩ := Hvs.out.open_ (by rw [nums64_length]; exact (by decide : 0 < 8))
          have hlS : ∀ u : St, (stList u).length = 8 := fun _ => rfl
          have f0 := hch j _ (nums64_get (stList s) j (by rw [hlS]; exact hlt))
          have f1 := hcv j _ (nums64_get (stList r) j (by rw [hlS]; exact hlt))
          have f0 := (Hbe.out.cell (block_lt_of_cell ((Hbw.out.cell (block_lt_of_cell f0)).trans f0))).trans ((Hbw.out.cell (block_lt_of_cell f0)).trans f0)
          have f1 := (Hbe.out.cell (block_lt_of_cell f1)).trans f1
          obtain ⟨x, hx⟩ : ∃ x, x = (stList s).getD j 0 := ⟨_, rfl⟩
          obtain ⟨y, hy⟩ : ∃ y, y = (stList r).getD j 0 := ⟨_, rfl⟩
          have lx : x < 4294967296 := by rw [hx]; exact stList_lt hso j
          have ly : y < 4294967296 := by rw [hy]; exact stList_lt hro j
          rw [← hx] at f0
          rw [← hy] at f1
          have w1 : IntKind.u64.wrap ((x : Int) + (y : Int)) = (x : Int) + (y : Int) := u64_in' _ (by omega)
          obtain ⟨z, hz⟩ : ∃ z, z = (x + y) % 4294967296 := ⟨_, rfl⟩
          have ez : ((x : Int) + (y : Int)).tmod 4294967296 = (z : Int) := by rw [hz]; rfl
          have hzz : (stList (s.add r)).take (j + 1) = (stList (s.add r)).take j ++ [z] := by
            rw [hz, hx, hy]; exact stList_add_take s r j hlt
          have Hzz := Lib.hid hzz
          have r0 : (0 : Int) ≤ (j : Int) := by omega
          have r1 : (j : Int) < 8 := by omega
          have HbF := Lib.hid (Nat.lt_of_lt_of_le hgv (Nat.le_of_eq HF.out.symm))
          have hgvF := HbF.out
          have hghF : gh < F := Nat.lt_of_lt_of_le hgh hFw
          clear hch hcv hx hy hz hzz hlS HbF
          go_wp2_with fail
          go_region_held_law (fun w' => w'.cell? ⟨gh, oh + j, none⟩ = some (.int .u64 (x : Nat)) ∧ w'.cell? ⟨gv, ov + j, none⟩ = some (.int .u64 (y : Nat)))
            (first | exact K3.out | go_keep)
            ((refine step_append_any rfl _ _ 98 rfl 90 i0 (.int .u64 0) 1 8 Tryd.underlying98 hi hz0 hz1 hz2 rfl (by decide) (.slice a6 j c6) j (nums64 ((stList (s.add r)).take j)) (.slice (some ⟨wr.heap.size, 0, none⟩) 1 1) 1 (nums64 [z]) rfl rfl
                (Hown.out.kept ((Upd.refl (fun _ => False) wr).alloc _).drew (fun _ _ => id)) ((Sl.made wr 90 1 1 1 _ _ _ rfl rfl (by omega)).kept (Upd.refl (fun _ => False) _).drew (fun _ _ _ => id)) (nums64_one _) (by omega) (by omega) ?_
              intro a4 c4 w4 hown4 hgr4 hb4
              have hu4 : Upd (fun b => F ≤ b) wr w4 := Upd.grown ((Upd.refl _ wr).alloc _).drew hgr4 (fun b hb _ => Hob.out b hb)
              have K3 := Lib.hid (And.intro (hu4.cell f0 (Nat.not_le.2 hghF)) (hu4.cell f1 (Nat.not_le.2 hgvF)))
              have Hu4 := Lib.hid hu4
              have Hown4 := Lib.hid hown4
              have Hb4 := Lib.hid hb4
              clear hu4 hown4 hb4 hgr4))
          go_wp2
          go_roundw
          case rel =>
            refine ⟨j + 1, a4, c4, hlt, by go_num, rfl, ?_, ?_, ?_⟩
            · have h := Hown4.out
              rw [← nums64_append, ← Hzz.out] at h
              exact h
            · intro b hb
              by_cases hbb : (Value.slice a6 j c6).ownBlock = some b
              · exact Hob.out b hbb
              · have h1 := Hb4.out b hbb hb
                have h2 := Hbe.out.size
                have h3 := HFs.out
                (try simp at h1); omega
            · exact Hbe.out.upd (Nat.le_refl _) Hu4.out (fun i h => by have := HF.out; omega)
          case measure => simp [intOf]; omega
        · have hj8 : j = 8 := by omega
          subst hj8
          go_wp2
          go_ret
          refine ⟨a6, c6, rfl, ?_, fun g hg => Nat.le_trans hFw (Hob.out g hg), Hbw.out.trans (Hbe.out.mono Hbw.out.size)⟩
          rw [Hbo.out]
          exact Hown.out
end Go.Proofs.YtefobboakikpbaaDoor
