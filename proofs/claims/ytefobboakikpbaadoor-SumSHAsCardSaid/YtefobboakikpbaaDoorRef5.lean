/- The reference's SHA. -/
import Derived.Test.YtefobboakikpbaaDoorRef4
namespace Go.Proofs.YtefobboakikpbaaDoor
open Go.RowKit
set_option linter.unusedVariables false
set_option linter.unusedSimpArgs false

theorem outBytes_get (s : St) (i : Nat) (h : i < 32) : (outBytes s).getD i 0 = UInt8.ofNat ((stList s).getD (i / 4) 0 / 2 ^ (24 - 8 * (i % 4))) := by
  obtain ⟨q, r, hq, hr, rfl⟩ : ∃ q r, q < 8 ∧ r < 4 ∧ i = 4 * q + r := ⟨i / 4, i % 4, by omega, by omega, by omega⟩
  rw [show (4 * q + r) / 4 = q by omega, show (4 * q + r) % 4 = r by omega]
  rcases (by omega : q = 0 ∨ q = 1 ∨ q = 2 ∨ q = 3 ∨ q = 4 ∨ q = 5 ∨ q = 6 ∨ q = 7) with rfl | rfl | rfl | rfl | rfl | rfl | rfl | rfl <;>
    rcases (by omega : r = 0 ∨ r = 1 ∨ r = 2 ∨ r = 3) with rfl | rfl | rfl | rfl <;> simp [outBytes, stList, four]

set_option maxHeartbeats 4000000 in
set_option maxRecDepth 100000 in
theorem refSHA_any (w : World) (a : Option Addr) (c n : Nat) (l : List UInt8) (hl : Sl w 1 (.slice a n c) n (bytes l)) (hn : l.length = n) (hlen : n ≤ 70368744177664) :
    Calls Tryd.prog 22 #[.slice a n c] w fun e w' => e = .returned (.agg (bytes (sha l)).toArray) ∧ Below w.heap.size w w' := by
  have Hl := Lib.hid hl
  have Hn := Lib.hid hn
  clear hl hn
  obtain ⟨Z, hZ⟩ : ∃ Z : Array Value, Z = Array.replicate 32 (.int .u8 0) := ⟨_, rfl⟩
  have HZ := Lib.hid hZ
  clear hZ
  obtain ⟨Z, hZ⟩ : ∃ Z : Array Value, Z = Array.replicate 32 (.int .u8 0) := ⟨_, rfl⟩
  have HZ := Lib.hid hZ
  clear hZ
  go_enter Tryd.func22, Tryd.ntmps22
  go_wp2_with fail
  refine (starts_any _).mono ?_
  rintro e w1 ⟨rfl, hh1, hb1⟩
  have hz1 : w1.heap[w.heap.size]? = some (.cells Z 26 (0, 0)) := by
    rw [hb1.block _ (by simp), HZ.out]; exact heap_alloc_new _ _
  have hbw1 : Below w.heap.size w w1 := ((Below.refl _ _).alloc (Nat.le_refl _) _).trans (hb1.mono (by simp))
  simp only [World.size_alloc] at hh1
  have Hh1 := Lib.hid hh1.sl
  have Hz1 := Lib.hid hz1
  have Hbw1 := Lib.hid hbw1
  clear hh1 hz1 hb1 hbw1
  go_wp2_with fail
  refine (roots_any w1).mono ?_
  rintro e w2 ⟨rfl, hk2, hb2⟩
  have Hk2 := Lib.hid hk2.sl
  have Hh2 := Lib.hid (Hh1.out.below hb2)
  have Hz2 := Lib.hid ((hb2.block _ (lt_heap Hz1.out)).trans Hz1.out)
  have Hbw2 := Lib.hid (Hbw1.out.trans (hb2.mono Hbw1.out.size))
  obtain ⟨ka, hka⟩ : ∃ ka, ka = w1.heap.size := ⟨_, rfl⟩
  rw [← hka] at Hk2 ⊢
  clear hk2 hb2 Hh1 Hz1 Hbw1 hka
  go_wp2_with fail
  refine (refPadded_any w2 a c n l (Hl.out.below Hbw2.out) Hn.out hlen).mono ?_
  rintro e w3 ⟨ap, m, cp, rfl, hTm, hg3⟩
  obtain ⟨T, hT⟩ : ∃ T, T = tailOf l l.length := ⟨_, rfl⟩
  rw [← hT] at hTm hg3
  have h64 : m % 64 = 0 := by rw [← hTm, hT]; exact tailOf_whole _ _
  have hmb : m ≤ n + 72 := by
    have := tailOf_length l l.length
    have hz : zeros l.length < 64 := Nat.mod_lt _ (by decide)
    rw [← hT, hTm, Hn.out] at this
    rw [Hn.out] at hz
    omega
  have hcap : m ≤ cp := by
    rcases hg3.1.2.2 with ⟨hv, h0⟩ | ⟨_, _, _, _, hv, _, hnc, _⟩
    · injection hv with _ _ hc; omega
    · injection hv with _ _ hc; omega
  have Hp3 := Lib.hid hg3.1.sl
  have Hk3 := Lib.hid (Hk2.out.below hg3.2.2)
  have Hh3 := Lib.hid (Hh2.out.below hg3.2.2)
  have Hz3 := Lib.hid ((hg3.2.2.block _ (lt_heap Hz2.out)).trans Hz2.out)
  have Hbw3 := Lib.hid (Hbw2.out.trans (hg3.2.2.mono Hbw2.out.size))
  have HT := Lib.hid hT
  have HTm := Lib.hid hTm
  clear hTm hg3 hT Hk2 Hh2 Hz2 Hbw2
  go_wp2_with fail
  go_loopw [3, 6] (fun v i wr => ∃ (d q : Nat) (ah : Option Addr) (ch : Nat), q ≤ m ∧ i = .int .i64 q ∧ q = 64 * d ∧ v = .slice ah 8 ch ∧ Sl wr 1 (.slice ah 8 ch) 8 (nums64 (stList (blocks start T d))) ∧ Below w3.heap.size w3 wr) (fun _ i _ => m - (intOf i).toNat)
  case atStart => exact ⟨0, 0, _, _, Nat.zero_le _, rfl, rfl, rfl, Hh3.out, Below.refl _ _⟩
  case round =>
    obtain ⟨d, q, ah, ch, hqm, rfl, hq, rfl, hh, hbe⟩ := hrel
    have Hh := Lib.hid hh
    have Hbe := Lib.hid hbe
    have Hq := Lib.hid hq
    by_cases hlt : q < m
    · have hq64 : q + 64 ≤ m := by omega
      have hqq : q ≤ q + 64 := by omega
      obtain ⟨a4, hs4, _, _, hsl4, _⟩ := (Hp3.out.below Hbe.out).cut Tryd.underlying24 size_byte q (q + 64) hqq hq64 hcap
      have hcut := fun w => hs4 w q ((q : Int) + 64) rfl (by omega)
      rw [Nat.add_sub_cancel_left] at hcut hsl4
      simp only [Nat.mul_one] at hsl4
      obtain ⟨y, hy⟩ : ∃ y, y = (T.drop q).take 64 := ⟨_, rfl⟩
      have hyl : y.length = 64 := by rw [hy, List.length_take, List.length_drop, HTm.out]; omega
      have e4 : ((bytes T).drop q).take 64 = bytes y := by rw [hy]; simp [bytes, List.map_drop, List.map_take]
      rw [e4] at hsl4
      have hbl : blockOf (blocks start T d) y = blocks start T (d + 1) := by rw [hy, hq]; rfl
      have Hbl := Lib.hid hbl
      have Hyl := Lib.hid hyl
      have Hs4 := Lib.hid hsl4
      have z0 : (0 : Int) ≤ (q : Int) := by omega
      have z1 : (q : Int) ≤ (q : Int) + 64 := by omega
      have z2 : (q : Int) + 64 ≤ (cp : Int) := by omega
      clear hs4 hsl4 e4 hy hyl hbl hh hbe hq
      go_wp2_with fail
      refine (refBlock_any wr ah _ a4 ch _ _ (blocks start T d) (blocks_ok start_ok _ _) y Hh.out (Hk3.out.below Hbe.out) Hs4.out Hyl.out).mono ?_
      rintro e w4 ⟨a', c', rfl, hown4, hob4, hb4⟩
      rw [Hbl.out] at hown4
      have Hh4 := Lib.hid hown4.sl
      have Hbe4 := Lib.hid (Hbe.out.trans (hb4.mono Hbe.out.size))
      clear hown4 hob4 hb4 hcut
      go_wp2
      go_roundw
      case rel => exact ⟨d + 1, q + 64, a', c', hq64, by go_num, by rw [Hq.out]; omega, rfl, Hh4.out, Hbe4.out⟩
      case measure => simp [intOf]; omega
    · obtain ⟨s, hs⟩ : ∃ s, s = blocks start T d := ⟨_, rfl⟩
      have hso : s.Ok := by rw [hs]; exact blocks_ok start_ok _ _
      rw [← hs] at hh
      have hsha : sha l = outBytes s := by
        rw [hs]; unfold sha
        rw [← HT.out, HTm.out, show m / 64 = d by omega]
      have Hsha := Lib.hid hsha
      have Hh := Lib.hid hh
      have Hbw := Lib.hid (Hbw3.out.trans (hbe.mono Hbw3.out.size))
      have Hz := Lib.hid ((hbe.block _ (lt_heap Hz3.out)).trans Hz3.out)
      clear hh hbe hq hs hsha Hq
      go_wp2_with fail
      obtain ⟨O, hO⟩ : ∃ O, O = wr.heap.size := ⟨_, rfl⟩
      have hnew := heap_alloc_new wr (.cells #[.int .u8 0, .int .u8 0, .int .u8 0, .int .u8 0, .int .u8 0, .int .u8 0, .int .u8 0, .int .u8 0, .int .u8 0, .int .u8 0, .int .u8 0, .int .u8 0, .int .u8 0, .int .u8 0, .int .u8 0, .int .u8 0, .int .u8 0, .int .u8 0, .int .u8 0, .int .u8 0, .int .u8 0, .int .u8 0, .int .u8 0, .int .u8 0, .int .u8 0, .int .u8 0, .int .u8 0, .int .u8 0, .int .u8 0, .int .u8 0, .int .u8 0, .int .u8 0] 26)
      have hOw : w.heap.size < O := by rw [hO]; exact lt_heap Hz.out
      have hbA : Below wr.heap.size wr (wr.alloc (.cells #[.int .u8 0, .int .u8 0, .int .u8 0, .int .u8 0, .int .u8 0, .int .u8 0, .int .u8 0, .int .u8 0, .int .u8 0, .int .u8 0, .int .u8 0, .int .u8 0, .int .u8 0, .int .u8 0, .int .u8 0, .int .u8 0, .int .u8 0, .int .u8 0, .int .u8 0, .int .u8 0, .int .u8 0, .int .u8 0, .int .u8 0, .int .u8 0, .int .u8 0, .int .u8 0, .int .u8 0, .int .u8 0, .int .u8 0, .int .u8 0, .int .u8 0, .int .u8 0] 26)) := on_alloc (Below.refl _ _) _
      rw [← hO] at hnew ⊢
      generalize wr.alloc (.cells #[.int .u8 0, .int .u8 0, .int .u8 0, .int .u8 0, .int .u8 0, .int .u8 0, .int .u8 0, .int .u8 0, .int .u8 0, .int .u8 0, .int .u8 0, .int .u8 0, .int .u8 0, .int .u8 0, .int .u8 0, .int .u8 0, .int .u8 0, .int .u8 0, .int .u8 0, .int .u8 0, .int .u8 0, .int .u8 0, .int .u8 0, .int .u8 0, .int .u8 0, .int .u8 0, .int .u8 0, .int .u8 0, .int .u8 0, .int .u8 0, .int .u8 0, .int .u8 0] 26) = WA at hnew hbA ⊢
      have HhA := Lib.hid (Hh.out.below hbA)
      have HzA := Lib.hid ((hbA.block _ (lt_heap Hz.out)).trans Hz.out)
      have HbA := Lib.hid (Hbw.out.trans (hbA.mono Hbw.out.size))
      have hhO : ∀ g, (Value.slice ah 8 ch).ownBlock = some g → g < O := by
        intro g hg
        obtain ⟨g', o', rfl, hl, _⟩ := Hh.out.open_ (by rw [nums64_length]; exact (by decide : 0 < 8))
        have : g' = g := by simpa [Value.ownBlock] using hg
        omega
      have HhO := Lib.hid hhO
      have Hnew := Lib.hid hnew
      clear hnew hbA hO hhO Hh Hz Hbw
      go_loopw [8] (fun i wq => ∃ (k : Nat) (C : Array Value), k ≤ 32 ∧ i = .int .i64 k ∧ wq.heap[O]? = some (.cells C 26 (0, 0)) ∧ C.size = 32 ∧ (∀ j, j < k → C[j]? = some (.int .u8 ((outBytes s).getD j 0).toNat)) ∧ Upd (fun b => b = O) WA wq) (fun i _ => 32 - (intOf i).toNat)
      case atStart => exact ⟨0, _, Nat.zero_le _, rfl, Hnew.out, rfl, fun j hj => absurd hj (Nat.not_lt_zero _), Upd.refl _ _⟩
      case round =>
        rename World => wq
        obtain ⟨k, C, hk, rfl, ho, hCs, hC, hu⟩ := hrel
        by_cases hlt : k < 32
        · have f0 := cell_of_row wq O k _ _ _ ho
          rw [Array.getElem?_eq_getElem (by omega)] at f0
          generalize C[k]'(by omega) = old at f0
          have fz := frozen_of_row wq O k _ _ ho
          obtain ⟨q4, hq4⟩ : ∃ q4, q4 = k / 4 := ⟨_, rfl⟩
          obtain ⟨r4, hr4⟩ : ∃ r4, r4 = k % 4 := ⟨_, rfl⟩
          obtain ⟨t, ht⟩ : ∃ t, t = 24 - 8 * r4 := ⟨_, rfl⟩
          obtain ⟨g, off, rfl, _, hcell⟩ := (HhA.out.kept hu (fun b hb _ h => by have := HhO.out b hb; omega)).open_ (by rw [nums64_length]; exact (by decide : 0 < 8))
          have f1 := hcell q4 _ (nums64_get (stList s) q4 (by show q4 < 8; omega))
          obtain ⟨x, hx⟩ : ∃ x, x = (stList s).getD q4 0 := ⟨_, rfl⟩
          rw [← hx] at f1
          have e1 : (k : Int) / 4 = (q4 : Int) := by omega
          have e2 : (k : Int).tdiv 4 = (q4 : Int) := by rw [hq4]; rfl
          have e3 : (k : Int) % 4 = (r4 : Int) := by omega
          have e4 : (k : Int).tmod 4 = (r4 : Int) := by rw [hr4]; rfl
          have e5 : (24 : Int) - 8 * (r4 : Int) = (t : Int) := by omega
          have e6 : IntKind.u64.wrap (t : Int) = (t : Int) := u64_in' _ (by omega)
          have e7 : IntKind.i64.wrap (q4 : Int) = (q4 : Int) := IntWalk.i64_in _ (by omega)
          have i1 : (0 : Int) ≤ (q4 : Int) := by omega
          have i2 : (q4 : Int) < 8 := by omega
          have i3 : (0 : Int) ≤ (k : Int) := by omega
          have i4 : (k : Int) < 32 := by omega
          have ht64 : t < 64 := by omega
          obtain ⟨v, hv⟩ : ∃ v, v = (outBytes s).getD k 0 := ⟨_, rfl⟩
          have ev : ((x : Int) / 2 ^ t % 256) = (v.toNat : Int) := by
            rw [hv, outBytes_get s k hlt, ← hq4, ← hr4, ← ht, ← hx, UInt8.toNat_ofNat', show ((x : Int) / 2 ^ t) = ((x / 2 ^ t : Nat) : Int) by simp [Int.natCast_ediv, Int.natCast_pow]]
            omega
          have Hv := Lib.hid hv
          have Ho := Lib.hid ho
          have HC := Lib.hid hC
          have HCs := Lib.hid hCs
          have Hu := Lib.hid hu
          clear hcell hx hq4 hr4 ht hv ho hC hCs hu
          go_wp2
          go_roundw
          case rel =>
            refine ⟨k + 1, C.setIfInBounds k (.int .u8 v.toNat), by omega, by go_num, ?_, by simp [HCs.out], ?_, Hu.out.setCell _ _ (fun _ => rfl)⟩
            · rw [← ev]; exact heap_setCell_same _ _ _ _ _ _ Ho.out
            · intro j hj
              by_cases h : j = k
              · subst h; rw [Array.getElem?_setIfInBounds_self_of_lt (by rw [HCs.out]; exact hlt), Hv.out]
              · rw [Array.getElem?_setIfInBounds_ne (fun e => h e.symm)]; exact HC.out j (by omega)
          case measure => simp [intOf]; omega
        · have hCe : C = (bytes (outBytes s)).toArray := by
            apply Array.ext_getElem?
            intro j
            by_cases hj : j < 32
            · rw [hC j (by omega), List.getElem?_toArray, bytes_getD _ _ (by rw [outBytes_length]; exact hj)]
            · rw [Array.getElem?_eq_none (by omega), Array.getElem?_eq_none (by simp [bytes_length, outBytes_length]; omega)]
          have hZs : Z.size = 32 := by rw [HZ.out]; simp
          have hone : C.all (·.oneCell') = true := by rw [hCe, Array.all_eq_true_iff_forall_mem]; intro u hu; exact bytes_one _ u (by simpa using hu)
          have hzq := hu.at_ HzA.out (by omega)
          have HCe := Lib.hid hCe
          have Ho := Lib.hid ho
          have HCs := Lib.hid hCs
          have HZs := Lib.hid hZs
          have Hone := Lib.hid hone
          have Hzq := Lib.hid hzq
          have Hu := Lib.hid hu
          clear hCe ho hCs hZs hone hzq hC hu
          go_wp2_with (first
            | (refine wpList_load_row rfl 26 (.tmp 7) rfl O rfl 26 C (0, 0) _ Ho.out Tryd.underlying26 rfl (by rw [HCs.out]; kernel_rfl) ?_)
            | (refine wpList_store_row rfl 26 (.tmp 2) _ rfl w.heap.size C rfl rfl 26 Z Hzq.out (by rw [HCs.out]; kernel_rfl) (by rw [HCs.out, HZs.out]) Hone.out ?_))
          have hset := setRow_heap wq w.heap.size Z C 26 (0, 0) Hzq.out
          refine bodyPost_ret (results_cell_row (P := Tryd.prog) Tryd.results22 _ _ w.heap.size 26 C (0, 0) _ rfl hset Tryd.underlying26 rfl (by rw [HCs.out]; kernel_rfl)) rfl ⟨?_, ?_⟩
          · rw [HCe.out, Hsha.out]
          · exact below_setRow (HbA.out.upd (Nat.le_refl _) Hu.out (fun b hb => by omega)) (Nat.le_refl _) C
end Go.Proofs.YtefobboakikpbaaDoor
