/- The law SumBytes, walked. -/
import Derived.Test.YtefobboakikpbaaDoorRoom2
import Derived.Test.YtefobboakikpbaaDoorRef6
import Derived.Test.YtefobboakikpbaaDoorDam
import Derived.Deep.RegionHeld3
namespace Go.Proofs.YtefobboakikpbaaDoor
open Go.RowKit
set_option linter.unusedVariables false
set_option linter.unusedSimpArgs false

theorem Sl.recap {w : World} {size n c : Nat} {a : Option Addr} {xs : List Value} (h : Sl w size (.slice a n c) n xs) (c' : Nat) : Sl w size (.slice a n c') n xs := by
  obtain ⟨a0, c0, he, hl, hm, hc⟩ := h
  injection he with h1 _ _
  subst h1
  exact ⟨a, c', rfl, hl, hm, hc⟩
theorem digest_at' (w : World) (n : Nat) (hk : KeysAt w) (hbg : BeginAt w) (a : Option Addr) (c : Nat) (l : List UInt8) (hl : Sl w 1 (.slice a n c) n (bytes l)) (hn : l.length = n) (hlc : n ≤ c) (hlen : n ≤ 70368744177664) :
    Calls Tryd.prog 29 #[.slice a n c] w fun e w' => e = .returned (.agg (bytes (digest l)).toArray) ∧ Below w.heap.size w w' := by
  subst hn
  exact digest_any w hk hbg a c l hl hlc hlen
theorem crc_any' (w : World) (n : Nat) (hf : FoursAt w) (a : Option Addr) (c : Nat) (l : List UInt8) (hl : Sl w 1 (.slice a n c) n (bytes l)) (hn : l.length = n) :
    Calls Tryd.prog 31 #[.slice a n c] w fun e w' => e = .returned (.int .u32 (crc l : Nat)) ∧ Below w.heap.size w w' := by
  subst hn
  exact crc_any w hf a c l hl
theorem bytes_early (w : World) (a : Option Addr) (n c : Nat) (hm : n ≤ 9223372036854775807) (h : 32768 < n) :
    Calls Tryd.prog 6 #[.slice a n c] w fun e w' => e = .returned (.bool true) ∧ Below w.heap.size w w' := by
  go_enter Tryd.func6, Tryd.ntmps6
  go_wp2
  go_ret
  exact ⟨rfl, Below.refl _ _⟩

set_option maxHeartbeats 4000000 in
set_option maxRecDepth 100000 in
theorem bytes_law (w : World) (hk : KeysAt w) (hbg : BeginAt w) (hf : FoursAt w) (a : Option Addr) (c n : Nat) (l : List UInt8) (hl : Sl w 1 (.slice a n c) n (bytes l)) (hn : l.length = n) (hlc : n ≤ c) (hlen : n ≤ 32768) :
    Calls Tryd.prog 6 #[.slice a n c] w fun e w' => e = .returned (.bool true) ∧ Below w.heap.size w w' := by
  obtain ⟨i0, hi, hz0, hz1, hz2⟩ := info_parts info_byte
  have Hf := Lib.hid hf
  have Hl := Lib.hid hl
  have Hn := Lib.hid hn
  have Hk := Lib.hid hk
  have Hbg := Lib.hid hbg
  clear hl hn hf hk hbg
  go_enter Tryd.func6, Tryd.ntmps6
  go_wp2_with fail
  have hroom : RoomAt (w.alloc (.cells #[.slice none 0 0, .slice none 0 0, .slice none 0 0, .slice none 0 0, .slice none 0 0, .slice none 0 0, .slice none 0 0, .slice none 0 0, .slice none 0 0, .slice none 0 0, .slice none 0 0, .slice none 0 0, .slice none 0 0, .slice none 0 0, .slice none 0 0, .slice none 0 0, .slice none 0 0, .slice none 0 0, .slice none 0 0, .slice none 0 0, .slice none 0 0, .slice none 0 0, .slice none 0 0, .slice none 0 0, .slice none 0 0, .slice none 0 0] 60)) w.heap.size (.slice none 0 0) (.slice none 0 0) (.slice none 0 0) (.slice none 0 0) := heap_alloc_new w _
  have hb1 : Below w.heap.size w (w.alloc (.cells #[.slice none 0 0, .slice none 0 0, .slice none 0 0, .slice none 0 0, .slice none 0 0, .slice none 0 0, .slice none 0 0, .slice none 0 0, .slice none 0 0, .slice none 0 0, .slice none 0 0, .slice none 0 0, .slice none 0 0, .slice none 0 0, .slice none 0 0, .slice none 0 0, .slice none 0 0, .slice none 0 0, .slice none 0 0, .slice none 0 0, .slice none 0 0, .slice none 0 0, .slice none 0 0, .slice none 0 0, .slice none 0 0, .slice none 0 0] 60)) := on_alloc (Below.refl _ _) _
  generalize w.alloc (.cells #[.slice none 0 0, .slice none 0 0, .slice none 0 0, .slice none 0 0, .slice none 0 0, .slice none 0 0, .slice none 0 0, .slice none 0 0, .slice none 0 0, .slice none 0 0, .slice none 0 0, .slice none 0 0, .slice none 0 0, .slice none 0 0, .slice none 0 0, .slice none 0 0, .slice none 0 0, .slice none 0 0, .slice none 0 0, .slice none 0 0, .slice none 0 0, .slice none 0 0, .slice none 0 0, .slice none 0 0, .slice none 0 0, .slice none 0 0] 60) = w1 at hroom hb1 ⊢
  obtain ⟨p, hp⟩ : ∃ p, p = w.heap.size := ⟨_, rfl⟩
  have hpw : w.heap.size ≤ p := by omega
  have hp1 : p < w1.heap.size := by rw [hp]; exact lt_heap hroom
  rw [← hp] at hroom ⊢
  refine (roomBytes_any w1 p none none 0 0 _ _ 0 hroom [] [] (Own.nil _ _ _) (Own.nil _ _ _) (by decide) a c n l (Hl.out.below hb1) Hn.out (by omega)).mono ?_
  rintro e w2 ⟨af, ab, aa, cf, cb, ca, rfl, hr2, hob2, hoa2, hof2, hfb2, hbb2, hab2, hu2⟩
  have hwB : Below w.heap.size w w2 := hb1.upd (Nat.le_refl _) hu2 (fun b h => by
    rcases h with h | h | h
    · omega
    · simp [Value.ownBlock] at h
    · simp [Value.ownBlock] at h)
  simp only [List.nil_append, Nat.zero_add] at hr2 hob2 hoa2 hbb2 hab2 ⊢
  have hfw : ∀ k, (Value.slice af (n + 600) cf).ownBlock = some k → w.heap.size ≤ k := fun k hk => Nat.le_trans hb1.size (hfb2 k hk)
  obtain ⟨N, hN⟩ : ∃ N, N = n + 600 := ⟨_, rfl⟩
  rw [← hN] at hob2 hof2 hfw ⊢
  have hN1 : n + 600 ≤ N := by omega
  have hN2 : N ≤ n + 600 := by omega
  have HN := Lib.hid hN
  have Hr2 := Lib.hid hr2
  have Hob2 := Lib.hid hob2
  have Hoa2 := Lib.hid hoa2
  have Hof2 := Lib.hid hof2
  have Hfw := Lib.hid hfw
  have HB2 := Lib.hid hwB
  clear hroom hb1 hp hr2 hob2 hoa2 hof2 hfb2 hbb2 hab2 hu2 hfw hwB hN hp1
  go_wp2_with fail
  rw [show decide (32768 < (n : Int)) = false by simp; omega]
  go_loopw [5] (fun i wr => ∃ (k : Nat) (y : List UInt8), k ≤ 3 ∧ i = .int .i64 k ∧ y.length = n ∧ RoomAt wr p (.slice ab 1 cb) (.slice aa 1 ca) (.slice none 0 0) (.slice none 0 0) ∧ Own wr 24 1 (.slice ab 1 cb) 1 [.slice af N cf] ∧ Own wr 3 1 (.slice aa 1 ca) 1 [.int .i64 (n : Nat)] ∧
      Own wr 5 1 (.slice af N cf) N (bytes (y ++ marks 600)) ∧ Below w.heap.size w wr) (fun i _ => 3 - (intOf i).toNat)
  case atStart => exact ⟨0, l, by omega, rfl, Hn.out, Hr2.out, Hob2.out, Hoa2.out, Hof2.out, HB2.out⟩
  case round =>
    obtain ⟨k, y, hk, rfl, hyn, hr, hob, hoa, hof, hbe⟩ := hrel
    have Hyn := Lib.hid hyn
    have Hr := Lib.hid hr
    have Hob := Lib.hid hob
    have Hoa := Lib.hid hoa
    have Hof := Lib.hid hof
    have Hbe := Lib.hid hbe
    have hyt : bytes ((y ++ marks 600).take n) = bytes y := by rw [← hyn, List.take_left]
    have hin := (hof.sl.to (show n ≤ N by omega)).recap N
    rw [hyt] at hin
    have Hin := Lib.hid hin
    clear hyn hr hob hoa hof hbe hyt hin
    by_cases hlt : k < 3
    · go_wp2_with (at_builtin; refine wpList_append_any rfl _ _ 24 rfl 5 i0 (.int .u8 0) 1 1 Tryd.underlying24 hi hz0 hz1 hz2 rfl (by decide) (.slice none 0 0) 0 [] _ n (bytes y) rfl rfl (Own.nil _ _ _) Hin.out (bytes_one y) (by omega) (by omega) ?_)
      intro an cn w3 hown3 hgr3 hb3
      have hu3 : Below wr.heap.size wr w3 := (Below.refl _ _).grown hgr3 (Nat.le_refl _) (by simp [Value.ownBlock])
      have hcap : n ≤ cn := by
        rcases hown3.2.2 with ⟨hv, h0⟩ | ⟨_, _, _, _, hv, _, hnc, _⟩
        · omega
        · injection hv with _ _ hc; omega
      have Hnow := Lib.hid hown3.sl
      have Hu3 := Lib.hid hu3
      clear hown3 hgr3 hb3 hu3
      obtain ⟨C, hC⟩ : ∃ C, C = (bytes (digest y)).toArray := ⟨_, rfl⟩
      have q1 : ∀ w, (Op.equalIn 10000 26 (.agg C) (.agg C)).run Tryd.prog w = .ok true w := fun w => by rw [hC]; exact eq_sum _ rfl w
      obtain ⟨u, hu⟩ : ∃ u, u = crc y := ⟨_, rfl⟩
      have HC := Lib.hid hC
      have Hu := Lib.hid hu
      have hun : ((u : Int) != (u : Int)) = false := by simp
      clear hC hu
      go_wp2_with fail
      refine (digest_at' w3 n (Hk.out.below (Hbe.out.trans (Hu3.out.mono Hbe.out.size))) (Hbg.out.below (Hbe.out.trans (Hu3.out.mono Hbe.out.size))) af N y (Hin.out.below Hu3.out) Hyn.out (by omega) (by omega)).mono ?_
      rintro e w4 ⟨rfl, hb4⟩
      rw [← HC.out]
      have Hu4 := Lib.hid (Hu3.out.trans (hb4.mono Hu3.out.size))
      have Hnow4 := Lib.hid (Hnow.out.below hb4)
      clear hb4
      go_wp2_with fail
      refine (refDigest_any w4 an cn n y Hnow4.out Hyn.out hcap (by omega)).mono ?_
      rintro e w5 ⟨rfl, hb5⟩
      rw [← HC.out]
      have Hu5 := Lib.hid (Hu4.out.trans (hb5.mono Hu4.out.size))
      have Hnow5 := Lib.hid (Hnow4.out.below hb5)
      clear hb5
      go_wp2_with fail
      refine (crc_any' w5 n (Hf.out.below (Hbe.out.trans (Hu5.out.mono Hbe.out.size))) af N y (Hin.out.below Hu5.out) Hyn.out).mono ?_
      rintro e w6 ⟨rfl, hb6⟩
      rw [← Hu.out]
      have Hu6 := Lib.hid (Hu5.out.trans (hb6.mono Hu5.out.size))
      have Hnow6 := Lib.hid (Hnow5.out.below hb6)
      clear hb6
      go_wp2_with fail
      refine (refCRC_any w6 an cn n y Hnow6.out Hyn.out).mono ?_
      rintro e w' ⟨rfl, hw⟩
      obtain rfl := hw.symm
      rw [← Hu.out]
      go_wp2_with fail
      refine (same_any w6 af an N cn n n y y (Hin.out.below Hu6.out) Hnow6.out Hyn.out Hyn.out).mono ?_
      rintro e w7 ⟨rfl, hb7⟩
      rw [show decide (y = y) = true by simp]
      have Hu7 := Lib.hid (Hu6.out.trans (hb7.mono Hu6.out.size))
      clear hb7
      have Hr7 : Hid (RoomAt w7 p (.slice ab 1 cb) (.slice aa 1 ca) (.slice none 0 0) (.slice none 0 0)) := (Hu7.out.block _ (lt_heap Hr.out)).trans Hr.out
      have Hob7 := Lib.hid (Hob.out.kept (Upd.below Hu7.out fun _ => False) (fun _ _ => id))
      have Hoa7 := Lib.hid (Hoa.out.kept (Upd.below Hu7.out fun _ => False) (fun _ _ => id))
      have Hof7 := Lib.hid (Hof.out.kept (Upd.below Hu7.out fun _ => False) (fun _ _ => id))
      have Hbe7 := Lib.hid (Hbe.out.trans (Hu7.out.mono Hbe.out.size))
      clear Hr Hob Hoa Hof Hbe Hin Hnow Hu3 Hu4 Hnow4 Hu5 Hnow5 Hu6 Hnow6 Hu7 Hr2 Hob2 Hoa2 Hof2 HB2 HC Hu
      go_wp2_with fail
      go_loopw [7] (fun i wq => ∃ (j : Nat) (z : List UInt8), j ≤ n ∧ i = .int .i64 j ∧ z.length = n ∧ RoomAt wq p (.slice ab 1 cb) (.slice aa 1 ca) (.slice none 0 0) (.slice none 0 0) ∧ Own wq 24 1 (.slice ab 1 cb) 1 [.slice af N cf] ∧ Own wq 3 1 (.slice aa 1 ca) 1 [.int .i64 (n : Nat)] ∧
          Own wq 5 1 (.slice af N cf) N (bytes (z ++ marks 600)) ∧ Below w.heap.size w wq) (fun i _ => n - (intOf i).toNat)
      case atStart => exact ⟨0, y, Nat.zero_le _, rfl, Hyn.out, Hr7.out, Hob7.out, Hoa7.out, Hof7.out, Hbe7.out⟩
      case round =>
        rename World => wq
        obtain ⟨j, z, hj, rfl, hzn, hr, hob, hoa, hof, hbe⟩ := hrel
        have Hzn := Lib.hid hzn
        have Hr := Lib.hid hr
        have Hob := Lib.hid hob
        have Hoa := Lib.hid hoa
        have Hof := Lib.hid hof
        have Hbe := Lib.hid hbe
        clear hzn hr hob hoa hof hbe Hr7 Hob7 Hoa7 Hof7 Hbe7
        by_cases hgo : j < n ∧ 0 < k
        · obtain ⟨hjn, hk0⟩ := hgo
          have hfp := Hof.out.apart Hr.out (by decide)
          have hfo := Hof.out.parted Hob.out (by decide)
          have hfa := Hof.out.parted Hoa.out (by decide)
          have hlz : (bytes (z ++ marks 600)).length = n + 600 := by rw [bytes_length, List.length_append, Hzn.out, marks_length]
          obtain ⟨g, off, cap, cur, hv, _, _, _, hcell, hfr⟩ := Hof.out.cells (ne_nil_of_length (by omega))
          injection hv with hv1 _ hv3
          subst hv1 hv3
          have f0 := hcell j _ (bytes_getD (z ++ marks 600) j (by rw [List.length_append, Hzn.out, marks_length]; omega))
          have fz := hfr (off + j)
          obtain ⟨x, hx⟩ : ∃ x, x = ((z ++ marks 600).getD j 0).toNat := ⟨_, rfl⟩
          have hx8 : x < 256 := by rw [hx]; exact UInt8.toNat_lt _
          rw [← hx] at f0
          obtain ⟨v, hv2, lv, qv⟩ : ∃ v : Nat, True ∧ v < 256 ∧ bits BinOp.xor IntKind.u8 (x : Int) (((j : Int) + 1) % 256) = (v : Int) := by
            refine ⟨x ^^^ ((j + 1) % 256), trivial, Nat.xor_lt_two_pow (n := 8) hx8 (Nat.mod_lt _ (by decide)), ?_⟩
            rw [show (((j : Int) + 1) % 256) = (((j + 1) % 256 : Nat) : Int) by omega]
            exact u8_xor_nat _ _ hx8 (Nat.mod_lt _ (by decide))
          have i1 : (0 : Int) ≤ (j : Int) := by omega
          have i2 : (j : Int) < (n : Int) := by omega
          have i3 : (0 : Int) < (k : Int) := by omega
          have Hfp := Lib.hid hfp
          have Hfo := Lib.hid hfo
          have Hfa := Lib.hid hfa
          clear hcell hfr hx hlz hfp hfo hfa hv2
          go_wp2
          go_roundw
          case rel =>
            have hu : Upd (fun b => b = g) wq (wq.setCell ⟨g, off + j, none⟩ (.int .u8 (bits BinOp.xor IntKind.u8 (x : Int) (((j : Int) + 1) % 256)))) := (Upd.refl _ _).setCell _ _ (fun _ => rfl)
            rw [qv] at hu
            refine ⟨j + 1, z.set j (UInt8.ofNat v), hjn, by go_num, by rw [List.length_set]; exact Hzn.out, ?_, ?_, ?_, ?_, ?_⟩
            · exact (hu.block p (lt_heap Hr.out) (fun h => Hfp.out (by simp [Value.ownBlock, h]))).trans Hr.out
            · exact Hob.out.kept hu (fun b hb h => Hfo.out b (by simp [Value.ownBlock, h]) hb)
            · exact Hoa.out.kept hu (fun b hb h => Hfa.out b (by simp [Value.ownBlock, h]) hb)
            · have h := Hof.out.set j (.int .u8 (v : Nat)) (by omega)
              have e : (bytes (z ++ marks 600)).set j (.int .u8 (v : Nat)) = bytes (z.set j (UInt8.ofNat v) ++ marks 600) := by
                rw [← List.set_append_left _ _ (by rw [Hzn.out]; exact hjn)]
                simp [bytes, List.map_set, UInt8.toNat_ofNat', Nat.mod_eq_of_lt lv]
              rw [e] at h
              exact h
            · exact Hbe.out.upd (Nat.le_refl _) hu (fun b hb => by subst hb; exact Hfw.out _ (by simp [Value.ownBlock]))
          case measure => simp [intOf]; omega
        · by_cases hjn : j < n
          · have hk0 : ((k : Int) > 0) = False := by simp; omega
            have hk0' : k = 0 := by omega
            have hk00 : (k : Int) ≤ 0 := by omega
            go_wp2
            go_roundw
            case rel => exact ⟨k + 1, z, hlt, by go_num, Hzn.out, Hr.out, Hob.out, Hoa.out, Hof.out, Hbe.out⟩
            case measure => simp [intOf]; omega
          · have hjn' : (n : Int) ≤ (j : Int) := by omega
            go_wp2
            go_roundw
            case rel => exact ⟨k + 1, z, hlt, by go_num, Hzn.out, Hr.out, Hob.out, Hoa.out, Hof.out, Hbe.out⟩
            case measure => simp [intOf]; omega
    · have hH : HoldsB wr [.slice af N cf] [.int .i64 (n : Nat)] 1 := by
        intro i hi1
        have h0 : i = 0 := by omega
        subst h0
        refine ⟨af, cf, n, N, y ++ marks 600, rfl, rfl, by omega, by omega, Hof.out.sl, by rw [List.length_append, Hyn.out, marks_length]; omega, fun q h1 h2 => ?_⟩
        rw [List.getD_eq_getElem?_getD, List.getElem?_append_right (by rw [Hyn.out]; exact h1), Hyn.out]
        simp [marks, List.getElem?_range (show q - n < 600 by omega)]
      have HH := Lib.hid hH
      clear hH
      go_wp2_with fail
      refine (hold_any wr p ab aa cb ca _ 1 Hr.out _ _ Hob.out.sl Hoa.out.sl (by decide) HH.out).mono ?_
      rintro e w' ⟨rfl, hw⟩
      obtain rfl := hw.symm
      go_wp2
      go_ret
      exact ⟨rfl, Hbe.out⟩
end Go.Proofs.YtefobboakikpbaaDoor
