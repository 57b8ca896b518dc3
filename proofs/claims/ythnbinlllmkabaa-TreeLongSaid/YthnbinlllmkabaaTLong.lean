/- TreeLong, walked. (Written by gen_long.py.) -/
import Derived.Test.YthnbinlllmkabaaLongP
import Derived.Deep.RegionHeld3
import Derived.Deep.CutBlock
namespace Go.Proofs.Ythnbinlllmkabaa
open Go.RowKit
set_option linter.unusedVariables false
set_option linter.unusedSimpArgs false

theorem bareL_chk (v : Vl) (h : ownErr v noMk 0 = 0) : chkErr (bareL v) = 0 := by
  unfold chkErr
  rw [chk_eq, if_neg (show ¬ ownErr (bareL v).v (bareL v).m (bareL v).kids.length ≠ 0 from fun e => e h)]
  simp [bareL, Nd.kids, chkKids]
theorem bareL_in {w : World} (F : Nat → Prop) (d : Nat) (v : Vl) (hv : v.wf) : NodeIn w F d (bareL v) none := ⟨hv, by unfold mwf bareL Nd.m noMk i64; dsimp only; omega, by show (0 : Nat) ≤ _; omega, by show (0 : Nat) ≤ _; omega, by
  cases d with
  | zero => rfl
  | succ d => intro i k hk; simp [bareL, Nd.kids] at hk⟩
theorem bareL_kinded (v : Vl) (h : v.kind ≠ 0) : (bareL v).kinded := by rw [kinded_eq]; exact ⟨h, trivial⟩
theorem vwfL (k m : Int) (h1 : 0 ≤ k ∧ k ≤ 9) (h2 : 0 ≤ m ∧ m ≤ 9) : (Vl.mk k m 0 zeros).wf := by
  refine ⟨rfl, ?_, ?_, ?_⟩ <;> (show i64 _; unfold i64; dsimp only; omega)
theorem bldL (k m : Int) (w : World) : (Instr.build 24 #[(0, .int .i64 k), (1, .int .i64 m)]).run Try.prog w = .ok (.agg (Vl.mk k m 0 zeros).cells.toArray) w := run_build w _ _ _ (by kernel_rfl)
theorem bldLN (v : Vl) (hv : v.sum.length = 32) (w : World) : (Instr.build 30 #[(1, .agg v.cells.toArray)]).run Try.prog w = .ok (.agg ((bareL v).row none 0).toArray) w := by
  obtain ⟨kd, md, sz, sm⟩ := v
  obtain ⟨b0, b1, b2, b3, b4, b5, b6, b7, b8, b9, b10, b11, b12, b13, b14, b15, b16, b17, b18, b19, b20, b21, b22, b23, b24, b25, b26, b27, b28, b29, b30, b31, hl⟩ := list32 sm hv
  subst hl
  exact run_build w _ _ _ (by kernel_rfl)
theorem bldLM (w : World) : (Instr.build 27 #[]).run Try.prog w = .ok (.agg (mcells noMk).toArray) w := run_build w _ _ _ (by kernel_rfl)
theorem build_ptrL (t : Nat) (w : World) : (Instr.buildSlice 89 1 #[(0, .pointer (some ⟨t, 0, none⟩))]).run Try.prog w = .ok (.slice (some ⟨w.heap.size, 0, none⟩) 1 1) (w.alloc (.cells #[.pointer (some ⟨t, 0, none⟩)] 55)) := by
  obtain ⟨i0, hi, hz0, hz1, hz2⟩ := info_parts info_ptr
  exact run_buildSlice w 89 55 1 _ _ i0 _ Try.underlying89 hi hz0 (by rw [hz1]; decide) (by rw [hz1]; decide) (by rw [hz1]; kernel_rfl)
theorem own_bareL (k m : Int) (hk : k = 1 ∨ k = 2) (h0 : 0 ≤ m) (h8 : m ≤ 8) : ownErr ⟨k, m, 0, zeros⟩ noMk 0 = 0 := by
  unfold ownErr
  rcases hk with rfl | rfl
  · rw [if_neg (by simp), pos_1 rfl, if_pos ⟨rfl, rfl, rfl, h0, h8⟩]
  · rw [if_neg (by simp), pos_2 rfl, if_pos ⟨.inl ⟨rfl, rfl⟩, .inl ⟨rfl, rfl⟩, h0, h8, by show (0 : Int) ≤ 0; decide, by show (0 : Int) ≤ _; decide⟩]
set_option maxHeartbeats 40000000 in
set_option maxRecDepth 100000 in
theorem long_law (w : World) (s nm ct : Int) (hs : i64 s) (hnm : i64 nm) (hct : i64 ct) :
    Calls Try.prog 5 #[.int .i64 s, .int .i64 nm, .int .i64 ct] w fun e w' => e = .returned (.bool true) ∧ Below w.heap.size w w' := by
  obtain ⟨i0, hi0, hz0, hz1, hz2⟩ := info_parts info_nodeF
  obtain ⟨ip0, hip, hip0, hip1, hip2⟩ := info_parts info_ptr
  have und41 := Try.underlying30
  go_enter Try.func5, Try.ntmps5
  go_wp2_with fail
  refine (place_any w ct 1500 (by decide) (by decide) hct.1 hct.2).mono ?_
  rintro e1 w1 ⟨⟨r1, hr1, rfl⟩, hw1⟩
  obtain rfl := hw1
  go_wp2_with fail
  refine (place_any w1 nm 30 (by decide) (by decide) hnm.1 hnm.2).mono ?_
  rintro e2 w2 ⟨⟨r2, hr2, rfl⟩, hw2⟩
  obtain rfl := hw2
  go_wp2_with fail
  refine (place_any w2 s 2147483647 (by decide) (by decide) hs.1 hs.2).mono ?_
  rintro e3 w3 ⟨⟨x0, hx0, rfl⟩, hw3⟩
  obtain rfl := hw3
  go_upto_region 3 with fail
  have hX := heap_alloc_new w3 (.cells #[.int .i64 (x0 : Nat)] 88)
  have hb4 := on_alloc (Below.refl _ w3) (.cells #[.int .i64 (x0 : Nat)] 88)
  have hs4 : (w3.alloc (.cells #[.int .i64 (x0 : Nat)] 88)).heap.size = w3.heap.size + 1 := by simp
  generalize w3.alloc (.cells #[.int .i64 (x0 : Nat)] 88) = w4 at hX hb4 hs4 ⊢
  obtain ⟨X, hXe⟩ : ∃ X, X = w3.heap.size := ⟨_, rfl⟩
  rw [← hXe] at hX
  rw [← hXe]
  have HX := Lib.hid hX
  have Hb4 := Lib.hid hb4
  have hXw : w3.heap.size ≤ X := by omega
  have hX4 : X < w4.heap.size := by omega
  obtain ⟨v0, hv0⟩ : ∃ v : Vl, v = ⟨1, 7, 0, zeros⟩ := ⟨_, rfl⟩
  have v0wf : v0.wf := by rw [hv0]; exact vwfL _ _ (by decide) (by decide)
  have Hbv := Lib.hid (bldL 1 7)
  rw [← hv0] at Hbv
  have HbN := Lib.hid (bldLN v0 v0wf.1)
  obtain ⟨A0, hA0⟩ : ∃ A : Array Value, A = v0.cells.toArray := ⟨_, rfl⟩
  rw [← hA0] at Hbv HbN
  obtain ⟨C0, hC0⟩ : ∃ A : Array Value, A = ((bareL v0).row none 0).toArray := ⟨_, rfl⟩
  rw [← hC0] at HbN
  have C0s := Lib.hid (show C0.size = 41 by rw [hC0, List.size_toArray]; exact row_len (n := bareL v0) v0wf)
  have C0o := Lib.hid (show C0.all (·.oneCell') = true by rw [hC0]; exact all_one (nrow_one _ _ _ _ _ _))
  have HC0 := Lib.hid hC0
  have b41 := Lib.hid (row_len (n := bareL v0) (a := none) (c := 0) v0wf)
  have Hown0 := Lib.hid (show ownErr v0 noMk 0 = 0 by rw [hv0]; exact own_bareL _ _ (.inl rfl) (by decide) (by decide))
  have Hk0 := Lib.hid (show v0.kind ≠ 0 by rw [hv0]; decide)
  have V0wf := Lib.hid v0wf
  clear hX hb4 hs4 hXe hA0 hC0 hv0 v0wf
  go_wp2_with (first | (refine wpList_build_eq (by rfl) 24 #[(0, .const (.int .i64 1)), (1, .const (.int .i64 7))] rfl #[(0, .int .i64 1), (1, .int .i64 7)] (by kernel_rfl) (.agg A0) (Hbv.out _) ?_) | (refine wpList_build_eq (by rfl) 30 #[(1, .tmp 35)] rfl #[(1, .agg A0)] (by kernel_rfl) (.agg C0) (HbN.out _) ?_) | (refine wpList_store_fresh rfl 30 _ _ rfl C0 rfl rfl (by rw [C0s.out]; kernel_rfl) (by rw [C0s.out]; rfl) C0o.out ?_))
  intro w5 hs5 hr5 hb5
  obtain ⟨M, hM⟩ : ∃ M, M = w4.heap.size := ⟨_, rfl⟩
  rw [← hM, HC0.out] at hr5
  rw [← hM]
  have hM5 : M < w5.heap.size := lt_heap hr5
  have hXM : X ≠ M := by omega
  have hMw : w3.heap.size ≤ M := by have := Hb4.out.size; omega
  have HX5 := Lib.hid ((hb5.block X hX4).trans HX.out)
  have HM5 := Lib.hid hr5
  have Hb5 := Lib.hid (below_on Hb4.out hb5)
  have hX5 : X < w5.heap.size := lt_heap HX5.out
  clear hs5 hr5 hb5 hM HX Hb4 Hbv HbN C0s C0o HC0
  go_wp2_with (refine wpList_load_midg (by rfl) 30 (.tmp 10) rfl M 0 rfl ((bareL v0).row none 0) _ (rangeAt_row HM5.out) Try.underlying30 rfl (by rw [b41.out]; kernel_rfl) ?_)
  refine (of_good w5 (fun b => b < w5.heap.size) 0 (bareL v0) none 0 (bareL_in _ _ _ V0wf.out) (fun b hb => hb) (show (1 : Nat) ≤ 1000000 by omega) (bareL_chk _ Hown0.out)).mono ?_
  rintro e6 w6 ⟨t0, rfl, ht6, hb6⟩
  have Hb6 := Lib.hid (below_on Hb5.out hb6)
  have HX6 := Lib.hid ((hb6.block X hX5).trans HX5.out)
  have HM6 := Lib.hid ((hb6.block M hM5).trans HM5.out)
  have Ht6 := Lib.hid ht6
  have hw56 : w5.heap.size ≤ w6.heap.size := hb6.size
  clear hb6 ht6 HX5 HM5
  go_wp2_with fail
  refine (known_ok w6).mono ?_
  rintro e7 w7 ⟨rfl, hb7⟩
  have hL0 : LSt w3 w7 X M x0 t0 (bareL v0) none 0 0 (.slice none 0 0) (.slice none 0 0) 0 [] [] [] := by
    refine ⟨by omega, (hb7.block X (by omega)).trans HX6.out, (hb7.block M (by omega)).trans HM6.out, ⟨⟨_, TreeAt.mono (fun b hb hl => ⟨hl, ?_, ?_, by simp [Value.ownBlock], by simp [Value.ownBlock]⟩) _ _ _ (Ht6.out.below hb7)⟩, ⟨0, bareL_in _ _ _ V0wf.out⟩, show (1 : Nat) ≤ 1000000 by omega⟩, bareL_ris _, bareL_kinded _ Hk0.out, show (1 : Nat) ≤ _ by omega, Own.nil _ _ _, Own.nil _ _ _, ⟨rfl, rfl, rfl⟩, fun j p n a c e1 => by simp at e1, ⟨by simp [Value.ownBlock], by simp [Value.ownBlock]⟩, ⟨by simp [Value.ownBlock], by simp [Value.ownBlock]⟩, hXM, below_on Hb6.out hb7, hXw, hMw, fun b hb => by simp [Value.ownBlock] at hb, fun b hb => by simp [Value.ownBlock] at hb⟩
    · have hb' : w5.heap.size ≤ b := hb; omega
    · have hb' : w5.heap.size ≤ b := hb; omega
  have HL0 := Lib.hid hL0
  clear hb7 hL0 HX6 HM6 Ht6 Hb6 Hb5 hs hnm hct b41 Hown0 Hk0 V0wf
  go_wp2_with fail
  obtain ⟨f, hf⟩ : ∃ f, f = 2 + r2 := ⟨_, rfl⟩
  have ef : (2 : Int) + (r2 : Int) = (f : Int) := by omega
  have hf1 : 0 < f := by omega
  have hf2 : f ≤ 31 := by omega
  rw [ef]
  clear ef hf
  go_loopw [11, 13, 14, 15] (fun tv ov wv iv wr => ∃ (i x t : Nat) (m : Nd) (am : Option Addr) (cm : Nat) (ao aw : Option Addr) (co cw K : Nat) (ps : List Nat) (ws : List Nd) (al : List (Option Addr × Nat)), i ≤ r1 ∧ tv = .pointer (some ⟨t, 0, none⟩) ∧ ov = .slice ao K co ∧ wv = .slice aw K cw ∧ iv = .int .i64 i ∧ K ≤ i ∧ LSt w3 wr X M x t m am cm i (.slice ao K co) (.slice aw K cw) K ps ws al) (fun _ _ _ iv _ => r1 - (intOf iv).toNat)
  case atStart => exact ⟨0, x0, t0, _, _, _, _, _, _, _, _, _, _, _, Nat.zero_le _, rfl, rfl, rfl, rfl, Nat.le_refl _, HL0.out⟩
  case round =>
    obtain ⟨i, x, t, m, am, cm, ao, aw, co, cw, K, ps, ws, al, hi, rfl, rfl, rfl, rfl, hKi, hst⟩ := hrel
    have Hst := Lib.hid hst
    clear hst HL0
    by_cases hlt : i < r1
    · have hlti : (i : Int) < (r1 : Int) := by omega
      go_wp2_with fail
      refine (next_any wr X _ x Hst.out.turn Hst.out.xlt f hf1 (by omega)).mono ?_
      rintro e8 w8 ⟨d1, x8, rfl, hd1, hx8, hX8, hu8⟩
      have HL8 := Lib.hid (Hst.out.next hx8 hX8 hu8)
      clear hX8 hu8 Hst
      go_wp2_with fail
      refine (digits_any w8 d1 (by omega)).mono ?_
      rintro e9 w9 ⟨rfl, hb9⟩
      have HL9 := Lib.hid (HL8.out.below hb9)
      clear hb9 HL8
      go_wp2_with fail
      refine (next_any w9 X _ x8 HL9.out.turn HL9.out.xlt 4 (by decide) (by decide)).mono ?_
      rintro e10 w10 ⟨k0, x10, rfl, hk0, hx10, hX10, hu10⟩
      have HL10 := Lib.hid (HL9.out.next hx10 hX10 hu10)
      clear hX10 hu10 HL9
      go_wp2_with fail
      go_loopw [16, 17] (fun pv kv wr => ∃ (k x : Nat) (q : ByteArray), pv = .string q ∧ kv = .int .i64 k ∧ q.size + 5 * k ≤ 19 ∧ LSt w3 wr X M x t m am cm i (.slice ao K co) (.slice aw K cw) K ps ws al) (fun _ kv _ => (intOf kv).toNat)
      case atStart => exact ⟨k0, x10, figs d1, rfl, rfl, by show 4 + 5 * k0 ≤ 19; omega, HL10.out⟩
      case round =>
        obtain ⟨k, x, q, rfl, rfl, hq, hst⟩ := hrel
        have Hst := Lib.hid hst
        clear hst HL10
        by_cases hk : 0 < k
        · have hk2 : (0 : Int) < (k : Int) := by omega
          have c1 : q.size + 1 ≤ 9223372036854775807 := by omega
          go_wp2_with fail
          refine (next_any wr X _ x Hst.out.turn Hst.out.xlt f hf1 (by omega)).mono ?_
          rintro e8 w8 ⟨d2, x8, rfl, hd2, hx8, hX8, hu8⟩
          have HL8 := Lib.hid (Hst.out.next hx8 hX8 hu8)
          clear hX8 hu8 Hst
          go_wp2_with fail
          refine (digits_any w8 d2 (by omega)).mono ?_
          rintro e9 w9 ⟨rfl, hb9⟩
          have HL9 := Lib.hid (HL8.out.below hb9)
          have hsz2 : (q ++ (⟨#[47]⟩ : ByteArray)).size = q.size + 1 := by rw [ByteArray.size_append]; rfl
          have hsz3 : (figs d2).size = 4 := rfl
          have c2 : (q ++ (⟨#[47]⟩ : ByteArray)).size + (figs d2).size ≤ 9223372036854775807 := by omega
          have Hq5 := Lib.hid (show (q ++ (⟨#[47]⟩ : ByteArray) ++ figs d2).size + 5 * (k - 1) ≤ 19 by rw [ByteArray.size_append, hsz2, hsz3]; omega)
          clear hb9 HL8 hsz2 hsz3
          go_wp2
          go_roundw
          case rel => exact ⟨k - 1, x8, q ++ (⟨#[47]⟩ : ByteArray) ++ figs d2, rfl, congrArg (Value.int .i64) (by omega), Hq5.out, HL9.out⟩
          case measure => simp [intOf]; omega
        · obtain rfl : k = 0 := by omega
          clear hk
          have hq19 : q.size ≤ 19 := by omega
          go_wp2_with fail
          refine (next_any wr X _ x Hst.out.turn Hst.out.xlt 2 (by decide) (by decide)).mono ?_
          rintro e8 w8 ⟨kd, x8, rfl, hkd, hx8, hX8, hu8⟩
          have HL8 := Lib.hid (Hst.out.next hx8 hX8 hu8)
          clear hX8 hu8 Hst
          go_wp2_with fail
          refine (next_any w8 X _ x8 HL8.out.turn HL8.out.xlt 9 (by decide) (by decide)).mono ?_
          rintro e9 wa ⟨md, xa, rfl, hmd, hxa, hXa, hua⟩
          have HLa := Lib.hid (HL8.out.next hxa hXa hua)
          clear hXa hua HL8
          obtain ⟨v, hv⟩ : ∃ v : Vl, v = ⟨1 + (kd : Int), (md : Nat), 0, zeros⟩ := ⟨_, rfl⟩
          have hvwf : v.wf := by rw [hv]; exact vwfL _ _ (by omega) (by omega)
          have Hbv := Lib.hid (bldL (1 + (kd : Int)) (md : Nat))
          rw [← hv] at Hbv
          have HbN := Lib.hid (bldLN v hvwf.1)
          have Hownv := Lib.hid (show ownErr v noMk 0 = 0 by rw [hv]; exact own_bareL _ _ (by omega) (by omega) (by omega))
          have Hkv := Lib.hid (show v.kind ≠ 0 by rw [hv]; show (1 + (kd : Int)) ≠ 0; omega)
          have Hvwf := Lib.hid hvwf
          have hv35 := Lib.hid (v.cells_length hvwf)
          obtain ⟨VA, hVA⟩ : ∃ A : Array Value, A = v.cells.toArray := ⟨_, rfl⟩
          rw [← hVA] at Hbv HbN
          have VAs := Lib.hid (show VA.size = 35 by rw [hVA, List.size_toArray]; exact hv35.out)
          have VAo := Lib.hid (show VA.all (·.oneCell') = true by rw [hVA]; exact all_one v.cells_one)
          have HVA := Lib.hid hVA
          obtain ⟨CB, hCB⟩ : ∃ A : Array Value, A = ((bareL v).row none 0).toArray := ⟨_, rfl⟩
          rw [← hCB] at HbN
          have HCB := Lib.hid hCB
          clear hVA hCB hv hvwf
          go_wp2_with (first | (refine wpList_build_eq (by rfl) 24 #[(0, .tmp 76), (1, .tmp 78)] rfl #[(0, .int .i64 (1 + (kd : Int))), (1, .int .i64 (md : Nat))] (by kernel_rfl) (.agg VA) (Hbv.out _) ?_) | (refine wpList_store_fresh rfl 24 _ _ rfl VA rfl rfl (by rw [VAs.out]; kernel_rfl) (by rw [VAs.out]; rfl) VAo.out ?_))
          intro wb hsb hrb hbb
          obtain ⟨V, hVe⟩ : ∃ V, V = wa.heap.size := ⟨_, rfl⟩
          rw [← hVe, HVA.out] at hrb
          rw [← hVe] at hsb
          rw [← hVe]
          have hVa : wa.heap.size ≤ V := by omega
          have HV := Lib.hid hrb
          have Hab := Lib.hid hbb
          have hVb : V < wb.heap.size := lt_heap hrb
          clear hsb hrb hbb hVe Hbv VAs VAo
          go_upto_region 22 with fail
          have hY := heap_alloc_new wb (.cells #[.string ⟨#[]⟩, .int .i64 0, .int .i64 0, .int .i64 0, .int .u8 0, .int .u8 0, .int .u8 0, .int .u8 0, .int .u8 0, .int .u8 0, .int .u8 0, .int .u8 0, .int .u8 0, .int .u8 0, .int .u8 0, .int .u8 0, .int .u8 0, .int .u8 0, .int .u8 0, .int .u8 0, .int .u8 0, .int .u8 0, .int .u8 0, .int .u8 0, .int .u8 0, .int .u8 0, .int .u8 0, .int .u8 0, .int .u8 0, .int .u8 0, .int .u8 0, .int .u8 0, .int .u8 0, .int .u8 0, .int .u8 0, .int .u8 0, .int .i64 0, .int .i64 0, .int .i64 0, .int .i64 0, .slice none 0 0] 30)
          have hbY := on_alloc (Below.refl _ wb) (.cells #[.string ⟨#[]⟩, .int .i64 0, .int .i64 0, .int .i64 0, .int .u8 0, .int .u8 0, .int .u8 0, .int .u8 0, .int .u8 0, .int .u8 0, .int .u8 0, .int .u8 0, .int .u8 0, .int .u8 0, .int .u8 0, .int .u8 0, .int .u8 0, .int .u8 0, .int .u8 0, .int .u8 0, .int .u8 0, .int .u8 0, .int .u8 0, .int .u8 0, .int .u8 0, .int .u8 0, .int .u8 0, .int .u8 0, .int .u8 0, .int .u8 0, .int .u8 0, .int .u8 0, .int .u8 0, .int .u8 0, .int .u8 0, .int .u8 0, .int .i64 0, .int .i64 0, .int .i64 0, .int .i64 0, .slice none 0 0] 30)
          have hsY : (wb.alloc (.cells #[.string ⟨#[]⟩, .int .i64 0, .int .i64 0, .int .i64 0, .int .u8 0, .int .u8 0, .int .u8 0, .int .u8 0, .int .u8 0, .int .u8 0, .int .u8 0, .int .u8 0, .int .u8 0, .int .u8 0, .int .u8 0, .int .u8 0, .int .u8 0, .int .u8 0, .int .u8 0, .int .u8 0, .int .u8 0, .int .u8 0, .int .u8 0, .int .u8 0, .int .u8 0, .int .u8 0, .int .u8 0, .int .u8 0, .int .u8 0, .int .u8 0, .int .u8 0, .int .u8 0, .int .u8 0, .int .u8 0, .int .u8 0, .int .u8 0, .int .i64 0, .int .i64 0, .int .i64 0, .int .i64 0, .slice none 0 0] 30)).heap.size = wb.heap.size + 1 := by simp
          generalize wb.alloc (.cells #[.string ⟨#[]⟩, .int .i64 0, .int .i64 0, .int .i64 0, .int .u8 0, .int .u8 0, .int .u8 0, .int .u8 0, .int .u8 0, .int .u8 0, .int .u8 0, .int .u8 0, .int .u8 0, .int .u8 0, .int .u8 0, .int .u8 0, .int .u8 0, .int .u8 0, .int .u8 0, .int .u8 0, .int .u8 0, .int .u8 0, .int .u8 0, .int .u8 0, .int .u8 0, .int .u8 0, .int .u8 0, .int .u8 0, .int .u8 0, .int .u8 0, .int .u8 0, .int .u8 0, .int .u8 0, .int .u8 0, .int .u8 0, .int .u8 0, .int .i64 0, .int .i64 0, .int .i64 0, .int .i64 0, .slice none 0 0] 30) = wc at hY hbY hsY ⊢
          obtain ⟨Z, hZ⟩ : ∃ Z : Array Value, Z = #[.string ⟨#[]⟩, .int .i64 0, .int .i64 0, .int .i64 0, .int .u8 0, .int .u8 0, .int .u8 0, .int .u8 0, .int .u8 0, .int .u8 0, .int .u8 0, .int .u8 0, .int .u8 0, .int .u8 0, .int .u8 0, .int .u8 0, .int .u8 0, .int .u8 0, .int .u8 0, .int .u8 0, .int .u8 0, .int .u8 0, .int .u8 0, .int .u8 0, .int .u8 0, .int .u8 0, .int .u8 0, .int .u8 0, .int .u8 0, .int .u8 0, .int .u8 0, .int .u8 0, .int .u8 0, .int .u8 0, .int .u8 0, .int .u8 0, .int .i64 0, .int .i64 0, .int .i64 0, .int .i64 0, .slice none 0 0] := ⟨_, rfl⟩
          obtain ⟨Y, hYe⟩ : ∃ Y, Y = wb.heap.size := ⟨_, rfl⟩
          have hZs := Lib.hid (show Z.size = 41 by rw [hZ]; rfl)
          rw [← hZ, ← hYe] at hY
          rw [← hYe]
          have HY := Lib.hid hY
          have HVc := Lib.hid ((hbY.block V hVb).trans HV.out)
          have Hac := Lib.hid (Hab.out.trans (hbY.mono Hab.out.size))
          have hYa : wa.heap.size ≤ Y := by have := Hab.out.size; omega
          have hVY : V ≠ Y := by omega
          have hYc : Y < wc.heap.size := by omega
          have hVc : V < wc.heap.size := by omega
          have hXa : X < wa.heap.size := lt_heap HLa.out.turn
          have hMa : M < wa.heap.size := lt_heap HLa.out.row
          clear hY hbY hsY hYe hZ HV Hab
          go_wp2_with fail
          refine (next_any wc X _ xa ((Hac.out.block X hXa).trans HLa.out.turn) HLa.out.xlt 5 (by decide) (by decide)).mono ?_
          rintro e10 wd ⟨sw, xd, rfl, hsw, hxd, hXd, hud⟩
          have Had := Lib.hid ((Upd.below Hac.out (fun b => b = X)).trans hud)
          have HTd := Lib.hid hXd
          have HMd := Lib.hid (Had.out.at_ HLa.out.row (fun e => hXM e.symm))
          have HVd := Lib.hid (hud.at_ HVc.out (by omega))
          have HYd := Lib.hid (hud.at_ HY.out (by omega))
          have hcd := hud.size
          have Hxd := Lib.hid hxd
          clear hXd hud HVc HY Hac hxd
          by_cases hsw3 : sw ≤ 2
          · have hsw2 : sw = 0 ∨ sw = 1 ∨ sw = 2 := by omega
            clear hsw3
            rcases hsw2 with hsw2 | hsw2 | hsw2
            all_goals
              subst hsw2
              have Hnow := Lib.hid (HLa.out.now.keep (G := GB wa X M (.slice ao K co) (.slice aw K cw)) Had.out (fun b hb e => hb.2.1 e) (fun b hb => hb))
              obtain ⟨dt, htd⟩ := Hnow.out.tree
              obtain ⟨dn, hnd⟩ := Hnow.out.node
              have Htd := Lib.hid htd
              have Hnd := Lib.hid hnd
              have Hmwf := Lib.hid hnd.vwf
              have mm41 := Lib.hid (row_len (n := m) (a := am) (c := cm) hnd.vwf)
              have hmp : m.parts ≤ 601101 := by have := HLa.out.parts; omega
              have hmc : m.cnt ≤ 601101 := Nat.le_trans (cnt_le_parts m) hmp
              have hq9 : q.size ≤ 1000000000 := by omega
              have hMY : M ≠ Y := by omega
              clear htd hnd Hnow
              have hof := of_good wd (fun b => b < wd.heap.size) 0 (bareL v) none 0 (bareL_in _ _ _ Hvwf.out) (fun b hb => hb) (show (1 : Nat) ≤ 1000000 by omega) (bareL_chk _ Hownv.out)
              rw [← HCB.out] at hof
              have Hof := Lib.hid hof
              clear hof
              go_wp2_with (first | (refine wpList_load_midg (by rfl) 24 (.tmp 18) rfl V 0 rfl v.cells _ (rangeAt_row HVd.out) Try.underlying24 rfl (by rw [hv35.out]; kernel_rfl) ?_; rw [← HVA.out]) | (refine wpList_build_eq (by rfl) 30 #[(1, .tmp 99)] rfl #[(1, .agg VA)] (by kernel_rfl) (.agg CB) (HbN.out _) ?_))
              refine Hof.out.mono ?_
              rintro e11 we ⟨sq, rfl, hsq, hbe⟩
              have Hsq := Lib.hid (TreeAt.mono (G := (fun b => GB wa X M (.slice ao K co) (.slice aw K cw) b ∨ wd.heap.size ≤ b)) (fun b hb _ => .inr hb) _ _ _ hsq)
              have HMe := Lib.hid ((hbe.block M (lt_heap HMd.out)).trans HMd.out)
              have HVe := Lib.hid ((hbe.block V (lt_heap HVd.out)).trans HVd.out)
              have HYe := Lib.hid ((hbe.block Y (lt_heap HYd.out)).trans HYd.out)
              have Hae := Lib.hid (Had.out.trans (Upd.below hbe (fun b => b = X)))
              have HTe := Lib.hid ((hbe.block X (lt_heap HTd.out)).trans HTd.out)
              have hde : wd.heap.size ≤ we.heap.size := hbe.size
              have Htde := Lib.hid (TreeAt.mono (G := (fun b => GB wa X M (.slice ao K co) (.slice aw K cw) b ∨ wd.heap.size ≤ b)) (fun b hb _ => .inl hb) _ _ _ (Htd.out.below hbe))
              have Hnde := Lib.hid (Hnd.out.below hbe)
              clear hsq hbe Hof Htd Hnd
              have hbc : (bareL v).cnt = 1 := rfl
              by_cases hpe : putErr m q (bareL v) = 0
              · as_aux_lemma =>
                  have Hput := Lib.hid (put_ok (fun b => GB wa X M (.slice ao K co) (.slice aw K cw) b ∨ wd.heap.size ≤ b) dt 1 we t sq m (bareL v) q Htde.out Hsq.out HLa.out.ris (by rw [hbc]; omega) hq9 hpe)
                  go_wp2_with fail
                  refine Hput.out.mono ?_
                  rintro e12 wf ⟨u, rfl, hu, hbf⟩
                  have Hu := Lib.hid hu
                  have HMf := Lib.hid ((hbf.block M (lt_heap HMe.out)).trans HMe.out)
                  have HVf := Lib.hid ((hbf.block V (lt_heap HVe.out)).trans HVe.out)
                  have HYf := Lib.hid ((hbf.block Y (lt_heap HYe.out)).trans HYe.out)
                  have Haf := Lib.hid (Hae.out.trans (Upd.below hbf (fun b => b = X)))
                  have HTf := Lib.hid ((hbf.block X (lt_heap HTe.out)).trans HTe.out)
                  have hef : we.heap.size ≤ wf.heap.size := hbf.size
                  have Hndf := Lib.hid (Hnde.out.below hbf)
                  clear hu hbf Hput Hnde Htde Hsq
                  have hrp := refPut_ok (fun b => b < wf.heap.size) dn 0 wf m (bareL v) q am none cm 0 (Hndf.out.mono (fun b _ hl => hl)) (bareL_in _ _ _ Hvwf.out) (fun b hb => hb) (by omega) (show (1 : Nat) ≤ 1000000 by omega) hq9 (Nat.le_trans (put_parts m v hq19) (by omega))
                  obtain ⟨y, hy⟩ : ∃ y, y = putRes m q (bareL v) := ⟨_, rfl⟩
                  rw [← HCB.out, hpe, ← hy] at hrp
                  have Hrp := Lib.hid hrp
                  have hgd := put_good HLa.out.ris HLa.out.kinded hq19 Hkv.out hpe
                  rw [← hy] at hgd
                  have Hyr := Lib.hid hgd.1
                  have Hgood := Lib.hid (show y.ris ∧ y.kinded ∧ y.parts ≤ 1 + 401 * (i + 1) from ⟨hgd.2.1, hgd.2.2.1, by have h1 := HLa.out.parts; have h2 := hgd.2.2.2; omega⟩)
                  have Hgd := Lib.hid (show y.parts ≤ m.parts + 401 from hgd.2.2.2)
                  clear hrp hy hgd hpe Hndf
                  go_wp2_with (first | (refine wpList_load_midg (by rfl) 30 (.tmp 10) rfl M 0 rfl (m.row am cm) _ (rangeAt_row HMf.out) Try.underlying30 rfl (by rw [mm41.out]; kernel_rfl) ?_) | (refine wpList_load_midg (by rfl) 24 (.tmp 18) rfl V 0 rfl v.cells _ (rangeAt_row HVf.out) Try.underlying24 rfl (by rw [hv35.out]; kernel_rfl) ?_; rw [← HVA.out]) | (refine wpList_build_eq (by rfl) 30 #[(1, .tmp 116)] rfl #[(1, .agg VA)] (by kernel_rfl) (.agg CB) (HbN.out _) ?_))
                  refine Hrp.out.mono ?_
                  rintro e13 wg ⟨ay, cy, rfl, hny, hbg⟩
                  have HMg := Lib.hid ((hbg.block M (lt_heap HMf.out)).trans HMf.out)
                  have HVg := Lib.hid ((hbg.block V (lt_heap HVf.out)).trans HVf.out)
                  have HYg := Lib.hid ((hbg.block Y (lt_heap HYf.out)).trans HYf.out)
                  have Hag := Lib.hid (Haf.out.trans (Upd.below hbg (fun b => b = X)))
                  have HTg := Lib.hid ((hbg.block X (lt_heap HTf.out)).trans HTf.out)
                  have hfg : wf.heap.size ≤ wg.heap.size := hbg.size
                  have Hyn := Lib.hid hny
                  have Hywf := Lib.hid hny.vwf
                  have Hbg := Lib.hid hbg
                  obtain ⟨E, hE⟩ : ∃ E : Array Value, E = (y.row ay cy).toArray := ⟨_, rfl⟩
                  have Es := Lib.hid (show E.size = 41 by rw [hE, List.size_toArray]; exact row_len hny.vwf)
                  have Eo := Lib.hid (show E.all (·.oneCell') = true by rw [hE]; exact all_one (nrow_one _ _ _ _ _ _))
                  have HE := Lib.hid hE
                  rw [← hE]
                  clear hE
                  go_wp2_with (refine wpList_store_rowg rfl 30 (.tmp 21) (.tmp 119) rfl Y E rfl rfl 30 Z HYg.out (by rw [Es.out]; kernel_rfl) (by rw [Es.out, hZs.out]) Eo.out ?_)
                  intro wh hrh huh
                  rw [HE.out] at hrh
                  have Hyrow := Lib.hid hrh
                  have hUh : Upd (fun b => b = X) wa wh := Hag.out.then huh (fun b hb e => by have e' : b = Y := e; omega)
                  have HLh := Lib.hid (HLa.out.keep Hxd.out hUh (fun b hb => .inl hb) (huh.at_ HTg.out (by omega)) (huh.at_ HMg.out hMY))
                  have Huh := Lib.hid huh
                  have hgh : wg.heap.size ≤ wh.heap.size := huh.size
                  clear hrh huh hUh HE
                  have HO := Lib.hid (show OldAt wh (GB wh X M (.slice ao K co) (.slice aw K cw)) u y ay from ⟨⟨_, TreeAt.mono (F := (fun b => (fun b => GB wa X M (.slice ao K co) (.slice aw K cw) b ∨ wd.heap.size ≤ b) b ∨ we.heap.size ≤ b)) (fun b hb hl => (by rcases hb with (hb | hb) | hb; (exact GB.more (show wa.heap.size ≤ wh.heap.size by omega) hb); (exact HLa.out.fresh (show wa.heap.size ≤ b by have hb' : wd.heap.size ≤ b := hb; omega) hl); (exact HLa.out.fresh (show wa.heap.size ≤ b by have hb' : we.heap.size ≤ b := hb; omega) hl))) _ _ _ (TreeAt.kept Huh.out (fun b hb e => by have e' : b = Y := e; rcases hb with (hb | hb) | hb; (have := hb.1; omega); (have hb' : wd.heap.size ≤ b := hb; omega); (have hb' : we.heap.size ≤ b := hb; omega)) _ _ _ ((show TreeAt wf _ _ u y by rw [Hyr.out]; exact TreeAt.renamed Hu.out ⟨#[]⟩).below Hbg.out))⟩, ⟨_, (Hyn.out.kept Huh.out (fun b hb e => by have e' : b = Y := e; have hb' : wf.heap.size ≤ b := hb; omega)).mono (fun b hb hl => HLa.out.fresh (by have hb' : wf.heap.size ≤ b := hb; omega) hl)⟩, by have h1 := HLa.out.parts; have h2 := Hgd.out; omega⟩)
                  clear Hrp hny hbg Hu Hyn Huh Hbg Es Eo
                  have HSy := Lib.hid (show wh.drew.rangeAt Y 0 (y.row ay cy) from rangeAt_row Hyrow.out)
                  have ym41 := Lib.hid (row_len (n := m) (a := am) (c := cm) Hmwf.out)
                  have yy41 := Lib.hid (row_len (n := y) (a := ay) (c := cy) Hywf.out)
                  have infy : (Try.prog.info? 30).map (·.size) = some (y.row ay cy).length := by rw [yy41.out]; kernel_rfl
                  have yys := Lib.hid (show (y.row ay cy).toArray.size = 41 by rw [List.size_toArray]; exact yy41.out)
                  have hrowd : wh.drew.heap[M]? = some (.cells (m.row am cm).toArray 30 (0, 0)) := HLh.out.row
                  have Hthm := Lib.hid (show wh.drew.there M 0 41 from there_rowR hrowd 0 41 (by rw [List.size_toArray, ym41.out]; omega))
                  have hse := heap_setCells8 wh.drew M (m.row am cm) (y.row ay cy) hrowd (by rw [ym41.out, yy41.out])
                  have hsu := upd_setCells wh.drew M 0 (y.row ay cy)
                  obtain ⟨wi, hwi⟩ : ∃ wi, wi = wh.drew.setCells M 0 (y.row ay cy).toArray.toList := ⟨_, rfl⟩
                  rw [show wh.drew.setCells M 0 (y.row ay cy) = wi from hwi.symm] at hse hsu
                  have Hwi := Lib.hid hwi
                  have HSi := Lib.hid (show wi.rangeAt Y 0 (y.row ay cy) from rangeAt_kept HSy.out hsu (fun e => hMY e.symm))
                  have HL := Lib.hid (LSt.newm (HLh.out.below (on_drew (Below.refl _ _))) hsu hse (HO.out.keep ((Upd.refl (fun _ => False) wh).drew) (fun _ _ => id) (fun b hb => GB.more (Nat.le_refl _) hb)) Hgood.out.1 Hgood.out.2.1 Hgood.out.2.2)
                  clear hrowd hse hsu hwi HLh HO
                  go_wp2_with fail
                  refine wp_region_noPanic ?_
                  refine wp_region_held_drew (S := (fun w' => w'.rangeAt Y 0 (y.row ay cy))) (by kernel_rfl) HSy.out (fun hHeld => ?_)
                  refine wpAnyH_take (i := 0) (v := ?_) rfl (by kernel_rfl) (by kernel_rfl) (by kernel_rfl) (fun _ _ _ h => h) (Or.inl ⟨by rfl, ?_⟩) (by assumption) ?_
                  rotate_left
                  · intro w hSw; (try dsimp only at hSw); go_simp; (try with_reducible rfl)
                  (try simp only [List.getElem_toArray, List.getElem_cons_succ, List.getElem_cons_zero, Act.put, List.setIfInBounds_toArray, List.set_cons_zero, List.set_cons_succ])
                  refine wpAnyH_take (i := 1) (v := _) rfl (by kernel_rfl) (by kernel_rfl) (by kernel_rfl) (fun _ _ _ h => h) (yieldsIf_load_mid (by rfl) 30 (.tmp 21) rfl Y 0 rfl (y.row ay cy) _ (fun w hSw => hSw) und41 rfl infy) (by assumption) ?_
                  (try simp only [List.getElem_toArray, List.getElem_cons_succ, List.getElem_cons_zero, Act.put, List.setIfInBounds_toArray, List.set_cons_zero, List.set_cons_succ])
                  refine wpAnyH_take (i := 2) (v := ?_) rfl (by kernel_rfl) (by kernel_rfl) (by kernel_rfl) (fun _ _ _ h => h) (Or.inl ⟨by rfl, ?_⟩) (by assumption) ?_
                  rotate_left
                  · intro w hSw; (try dsimp only at hSw); go_simp; (try with_reducible rfl)
                  (try simp only [List.getElem_toArray, List.getElem_cons_succ, List.getElem_cons_zero, Act.put, List.setIfInBounds_toArray, List.set_cons_zero, List.set_cons_succ])
                  refine wpAnyH_ready (rs := [3]) (by kernel_rfl) (by simp) ?_
                  refine AllReadyH.cons rfl (fun KK hKK => ?_) AllReadyH.nil
                  rw [if_pos (by rfl)]
                  refine wp_store_mid 30 (.tmp 10) (.tmp 152) rfl M 0 (y.row ay cy).toArray rfl rfl (by rw [yys.out]; exact Hthm.out) (by rw [yys.out]; kernel_rfl) (all_one (nrow_one _ _ _ _ _ _)) ?_
                  rw [← Hwi.out]
                  refine hKK.out _ _ HSi.out (fun hHeld => ?_)
                  clear hKK KK
                  (try simp only [List.getElem_toArray, List.getElem_cons_succ, List.getElem_cons_zero, Act.put, List.setIfInBounds_toArray, List.set_cons_zero, List.set_cons_succ])
                  refine wpAnyH_done (by kernel_rfl) ?_ _
                  refine NoPanic.normal ?_
                  clear hHeld HSy HSi Hwi Hthm
                  obtain ⟨rm, hrm⟩ : ∃ r, r = i % 250 := ⟨_, rfl⟩
                  have em : (i : Int).tmod 250 = (rm : Int) := by rw [hrm]; rfl
                  clear hrm
                  by_cases h249 : rm = 249
                  · as_aux_lemma =>
                      subst h249
                      go_wp2_with fail
                      clear em
                      have HD := Lib.hid (HL.out.below (on_drew (Below.refl wi.heap.size wi)))
                      have HM0 := Lib.hid (rangeAt_row HD.out.row)
                      obtain ⟨dnn, hnn⟩ := HD.out.now.node
                      have hn32 := Lib.hid hnn.vwf.1
                      have n41 := Lib.hid (row_len (n := y) (a := ay) (c := cy) hnn.vwf)
                      have infn : (Try.prog.info? 30).map (·.size) = some (y.row ay cy).length := by rw [n41.out]; kernel_rfl
                      clear hnn
                      refine wp_region_noPanic ?_
                      refine wp_region_held_drew (S := (fun w' => w'.rangeAt M 0 (y.row ay cy))) (by kernel_rfl) HM0.out (fun hHeld => ?_)
                      refine wpAnyH_take (i := 0) (v := ?_) rfl (by kernel_rfl) (by kernel_rfl) (by kernel_rfl) (fun _ _ _ h => h) (Or.inl ⟨by rfl, ?_⟩) (by assumption) ?_
                      rotate_left
                      · intro w hSw; (try dsimp only at hSw); go_simp; (try with_reducible rfl)
                      (try simp only [List.getElem_toArray, List.getElem_cons_succ, List.getElem_cons_zero, Act.put, List.setIfInBounds_toArray, List.set_cons_zero, List.set_cons_succ])
                      refine wpAnyH_take (i := 1) (v := ?_) rfl (by kernel_rfl) (by kernel_rfl) (by kernel_rfl) (fun _ _ _ h => h) (Or.inl ⟨by rfl, ?_⟩) (by assumption) ?_
                      rotate_left
                      · intro w hSw; (try dsimp only at hSw); go_simp; (try with_reducible rfl)
                      (try simp only [List.getElem_toArray, List.getElem_cons_succ, List.getElem_cons_zero, Act.put, List.setIfInBounds_toArray, List.set_cons_zero, List.set_cons_succ])
                      refine wpAnyH_take (i := 4) (v := ?_) rfl (by kernel_rfl) (by kernel_rfl) (by kernel_rfl) (fun _ _ _ h => h) (Or.inl ⟨by rfl, ?_⟩) (by assumption) ?_
                      rotate_left
                      · intro w hSw; (try dsimp only at hSw); go_simp; (try with_reducible rfl)
                      (try simp only [List.getElem_toArray, List.getElem_cons_succ, List.getElem_cons_zero, Act.put, List.setIfInBounds_toArray, List.set_cons_zero, List.set_cons_succ])
                      refine wpAnyH_take (i := 5) (v := _) rfl (by kernel_rfl) (by kernel_rfl) (by kernel_rfl) (fun _ _ _ h => h) (yieldsIf_load_mid (by rfl) 30 (.tmp 10) rfl M 0 rfl (y.row ay cy) _ (fun w hSw => hSw) und41 rfl infn) (by assumption) ?_
                      (try simp only [List.getElem_toArray, List.getElem_cons_succ, List.getElem_cons_zero, Act.put, List.setIfInBounds_toArray, List.set_cons_zero, List.set_cons_succ])
                      refine wpAnyH_ready (rs := [2, 6]) (by kernel_rfl) (by simp) ?_
                      refine AllReadyH.cons rfl (fun KK hKK => ?_) (AllReadyH.cons rfl (fun KK hKK => ?_) AllReadyH.nil)
                      · rw [if_pos (by rfl)]
                        refine wp_buildSlice_eq 89 1 #[(0, .tmp 157)] rfl #[(0, .pointer (some ⟨u, 0, none⟩))] (by kernel_rfl) _ (build_ptrL u _) ?_
                        have hBp := on_alloc (Below.refl wi.drew.heap.size wi.drew) (.cells #[.pointer (some ⟨u, 0, none⟩)] 55)
                        have hSp := Sl.made wi.drew 55 1 1 1 #[.pointer (some ⟨u, 0, none⟩)] (0, 0) [.pointer (some ⟨u, 0, none⟩)] rfl rfl (by omega)
                        generalize wi.drew.alloc (.cells #[.pointer (some ⟨u, 0, none⟩)] 55) = wp at hBp hSp ⊢
                        obtain ⟨gp, hgp⟩ : ∃ g, g = wi.drew.heap.size := ⟨_, rfl⟩
                        rw [← hgp] at hSp ⊢
                        clear hgp
                        have HBp := Lib.hid hBp
                        have HSp := Lib.hid hSp
                        have HMp := Lib.hid (rangeAt_kept HM0.out (Upd.below hBp (fun _ => False)) id)
                        clear hBp hSp
                        refine hKK.out _ _ HMp.out (fun hHeld => ?_)
                        clear hKK KK
                        (try simp only [List.getElem_toArray, List.getElem_cons_succ, List.getElem_cons_zero, Act.put, List.setIfInBounds_toArray, List.set_cons_zero, List.set_cons_succ])
                        refine wpAnyH_ready (rs := [3, 6]) (by kernel_rfl) (by simp) ?_
                        refine AllReadyH.cons rfl (fun KK hKK => ?_) (AllReadyH.cons rfl (fun KK hKK => ?_) AllReadyH.nil)
                        · refine step_append_any rfl (.tmp 156) (.tmp 158) 89 rfl 55 ip0 (.pointer none) 1 8 Try.underlying89 hip hip0 hip1 hip2 rfl (by decide) (.slice ao K co) K (ptrs ps) (.slice (some ⟨gp, 0, none⟩) 1 1) 1 [.pointer (some ⟨u, 0, none⟩)] rfl rfl (HD.out.old.kept (Upd.below HBp.out (fun _ => False)) (fun _ _ => id)) HSp.out (by intro u hu; simp at hu; rw [hu]; rfl) (by omega) (by omega) ?_
                          intro a1 c1 wq ho hg hn
                          have uq : Upd (fun b => (Value.slice ao K co).ownBlock = some b) wp wq := Upd.grown (Upd.refl _ wp) hg (fun b hb _ => hb)
                          have HMq := Lib.hid (rangeAt_kept HMp.out uq HD.out.sepo.2)
                          have Hap := Lib.hid (And.intro ho (And.intro hg hn))
                          have Huq := Lib.hid uq
                          clear ho hg hn uq
                          refine hKK.out _ _ HMq.out (fun hHeld => ?_)
                          clear hKK KK
                          (try simp only [List.getElem_toArray, List.getElem_cons_succ, List.getElem_cons_zero, Act.put, List.setIfInBounds_toArray, List.set_cons_zero, List.set_cons_succ])
                          refine wpAnyH_ready (rs := [6]) (by kernel_rfl) (by simp) ?_
                          refine AllReadyH.cons rfl (fun KK hKK => ?_) AllReadyH.nil
                          rw [if_pos (by rfl)]
                          refine wp_buildSlice_eq 28 1 #[(0, .tmp 161)] rfl #[(0, .agg (y.row ay cy).toArray)] (by kernel_rfl) _ (build_node y ay cy hn32.out _) ?_
                          have hBn := on_alloc (Below.refl wq.heap.size wq) (.cells (y.row ay cy).toArray 30)
                          have hSn := Sl.made wq 30 41 1 1 (y.row ay cy).toArray (0, 0) (y.row ay cy) (List.toList_toArray ..) (by rw [n41.out]) (by omega)
                          generalize wq.alloc (.cells (y.row ay cy).toArray 30) = wn at hBn hSn ⊢
                          obtain ⟨gn, hgn⟩ : ∃ g, g = wq.heap.size := ⟨_, rfl⟩
                          have Hgnw := Lib.hid (show wi.drew.heap.size ≤ gn by rw [hgn]; exact (Nat.le_trans HBp.out.size Huq.out.size))
                          rw [← hgn] at hSn ⊢
                          clear hgn
                          have HBn := Lib.hid hBn
                          have HSn := Lib.hid hSn
                          have HMn := Lib.hid (rangeAt_kept HMq.out (Upd.below hBn (fun _ => False)) id)
                          clear hBn hSn
                          refine hKK.out _ _ HMn.out (fun hHeld => ?_)
                          clear hKK KK
                          (try simp only [List.getElem_toArray, List.getElem_cons_succ, List.getElem_cons_zero, Act.put, List.setIfInBounds_toArray, List.set_cons_zero, List.set_cons_succ])
                          refine wpAnyH_ready (rs := [7]) (by kernel_rfl) (by simp) ?_
                          refine AllReadyH.cons rfl (fun KK hKK => ?_) AllReadyH.nil
                          refine step_append_any rfl (.tmp 160) (.tmp 162) 28 rfl 30 i0 _ 41 128 Try.underlying28 hi0 hz0 hz1 hz2 rfl (by decide) (.slice aw K cw) K (rowsOf ws al) (.slice (some ⟨gn, 0, none⟩) 1 1) 1 (y.row ay cy) rfl rfl (((HD.out.was.kept (Upd.below HBp.out (fun _ => False)) (fun _ _ => id)).kept Huq.out (fun b hb e => HD.out.old.parted HD.out.was (by decide) b e hb)).kept (Upd.below HBn.out (fun _ => False)) (fun _ _ => id)) HSn.out (nrow_one _ _ _ _ _ _) (by omega) (by omega) ?_
                          intro a2 c2 wz ho2 hg2 hn2
                          have HLp := Lib.hid (HD.out.push HBp.out Hap.out.1 Hap.out.2.1 Hap.out.2.2 HBn.out ho2 hg2 hn2)
                          have HMz := Lib.hid (rangeAt_row HLp.out.row)
                          clear ho2 hg2 hn2 Hap
                          refine hKK.out _ _ HMz.out (fun hHeld => ?_)
                          clear hKK KK
                          (try simp only [List.getElem_toArray, List.getElem_cons_succ, List.getElem_cons_zero, Act.put, List.setIfInBounds_toArray, List.set_cons_zero, List.set_cons_succ])
                          refine wpAnyH_take (i := 8) (v := ?_) rfl (by kernel_rfl) (by kernel_rfl) (by kernel_rfl) (fun _ _ _ h => h) (Or.inl ⟨by rfl, ?_⟩) (by assumption) ?_
                          rotate_left
                          · intro w hSw; (try dsimp only at hSw); go_simp; (try with_reducible rfl)
                          (try simp only [List.getElem_toArray, List.getElem_cons_succ, List.getElem_cons_zero, Act.put, List.setIfInBounds_toArray, List.set_cons_zero, List.set_cons_succ])
                          refine wpAnyH_take (i := 9) (v := ?_) rfl (by kernel_rfl) (by kernel_rfl) (by kernel_rfl) (fun _ _ _ h => h) (Or.inl ⟨by rfl, ?_⟩) (by assumption) ?_
                          rotate_left
                          · intro w hSw; (try dsimp only at hSw); go_simp; (try with_reducible rfl)
                          (try simp only [List.getElem_toArray, List.getElem_cons_succ, List.getElem_cons_zero, Act.put, List.setIfInBounds_toArray, List.set_cons_zero, List.set_cons_succ])
                          refine wpAnyH_done (by kernel_rfl) ?_ _
                          refine NoPanic.normal ?_
                          clear hHeld
                          go_wp2_with fail
                          go_roundw
                          case rel => exact ⟨i + 1, xd, u, y, ay, cy, a1, a2, c1, c2, K + 1, _, _, _, by omega, rfl, rfl, rfl, by go_num, by omega, HLp.out⟩
                          case measure => simp [intOf]; omega
                        · rw [if_pos (by rfl)]
                          refine wp_buildSlice_eq 28 1 #[(0, .tmp 161)] rfl #[(0, .agg (y.row ay cy).toArray)] (by kernel_rfl) _ (build_node y ay cy hn32.out _) ?_
                          have hBn := on_alloc (Below.refl wp.heap.size wp) (.cells (y.row ay cy).toArray 30)
                          have hSn := Sl.made wp 30 41 1 1 (y.row ay cy).toArray (0, 0) (y.row ay cy) (List.toList_toArray ..) (by rw [n41.out]) (by omega)
                          generalize wp.alloc (.cells (y.row ay cy).toArray 30) = wn at hBn hSn ⊢
                          obtain ⟨gn, hgn⟩ : ∃ g, g = wp.heap.size := ⟨_, rfl⟩
                          have Hgnw := Lib.hid (show wi.drew.heap.size ≤ gn by rw [hgn]; exact HBp.out.size)
                          rw [← hgn] at hSn ⊢
                          clear hgn
                          have HBn := Lib.hid hBn
                          have HSn := Lib.hid hSn
                          have HMn := Lib.hid (rangeAt_kept HMp.out (Upd.below hBn (fun _ => False)) id)
                          clear hBn hSn
                          refine hKK.out _ _ HMn.out (fun hHeld => ?_)
                          clear hKK KK
                          (try simp only [List.getElem_toArray, List.getElem_cons_succ, List.getElem_cons_zero, Act.put, List.setIfInBounds_toArray, List.set_cons_zero, List.set_cons_succ])
                          have HB2 := Lib.hid (HBp.out.trans (HBn.out.mono HBp.out.size))
                          refine wpAnyH_ready (rs := [3]) (by kernel_rfl) (by simp) ?_
                          refine AllReadyH.cons rfl (fun KK hKK => ?_) AllReadyH.nil
                          refine step_append_any rfl (.tmp 156) (.tmp 158) 89 rfl 55 ip0 (.pointer none) 1 8 Try.underlying89 hip hip0 hip1 hip2 rfl (by decide) (.slice ao K co) K (ptrs ps) (.slice (some ⟨gp, 0, none⟩) 1 1) 1 [.pointer (some ⟨u, 0, none⟩)] rfl rfl (HD.out.old.kept (Upd.below HB2.out (fun _ => False)) (fun _ _ => id)) (HSp.out.kept (Upd.below HBn.out (fun _ => False)) (fun _ _ _ => id)) (by intro u hu; simp at hu; rw [hu]; rfl) (by omega) (by omega) ?_
                          intro a1 c1 wq ho hg hn
                          have uq : Upd (fun b => (Value.slice ao K co).ownBlock = some b) wn wq := Upd.grown (Upd.refl _ wn) hg (fun b hb _ => hb)
                          have HMq := Lib.hid (rangeAt_kept HMn.out uq HD.out.sepo.2)
                          have Hap := Lib.hid (And.intro ho (And.intro hg hn))
                          have Huq := Lib.hid uq
                          clear ho hg hn uq
                          refine hKK.out _ _ HMq.out (fun hHeld => ?_)
                          clear hKK KK
                          (try simp only [List.getElem_toArray, List.getElem_cons_succ, List.getElem_cons_zero, Act.put, List.setIfInBounds_toArray, List.set_cons_zero, List.set_cons_succ])
                          refine wpAnyH_ready (rs := [7]) (by kernel_rfl) (by simp) ?_
                          refine AllReadyH.cons rfl (fun KK hKK => ?_) AllReadyH.nil
                          refine step_append_any rfl (.tmp 160) (.tmp 162) 28 rfl 30 i0 _ 41 128 Try.underlying28 hi0 hz0 hz1 hz2 rfl (by decide) (.slice aw K cw) K (rowsOf ws al) (.slice (some ⟨gn, 0, none⟩) 1 1) 1 (y.row ay cy) rfl rfl ((HD.out.was.kept (Upd.below HB2.out (fun _ => False)) (fun _ _ => id)).kept Huq.out (fun b hb e => HD.out.old.parted HD.out.was (by decide) b e hb)) (HSn.out.kept Huq.out (fun b hb _ e => by have h1 := HD.out.old.lt e; have h2 := Hgnw.out; simp [Value.ownBlock] at hb; omega)) (nrow_one _ _ _ _ _ _) (by omega) (by omega) ?_
                          intro a2 c2 wz ho2 hg2 hn2
                          have HLp := Lib.hid (HD.out.push HB2.out Hap.out.1 Hap.out.2.1 Hap.out.2.2 (Below.refl _ _) ho2 hg2 hn2)
                          have HMz := Lib.hid (rangeAt_row HLp.out.row)
                          clear ho2 hg2 hn2 Hap
                          refine hKK.out _ _ HMz.out (fun hHeld => ?_)
                          clear hKK KK
                          (try simp only [List.getElem_toArray, List.getElem_cons_succ, List.getElem_cons_zero, Act.put, List.setIfInBounds_toArray, List.set_cons_zero, List.set_cons_succ])
                          refine wpAnyH_take (i := 8) (v := ?_) rfl (by kernel_rfl) (by kernel_rfl) (by kernel_rfl) (fun _ _ _ h => h) (Or.inl ⟨by rfl, ?_⟩) (by assumption) ?_
                          rotate_left
                          · intro w hSw; (try dsimp only at hSw); go_simp; (try with_reducible rfl)
                          (try simp only [List.getElem_toArray, List.getElem_cons_succ, List.getElem_cons_zero, Act.put, List.setIfInBounds_toArray, List.set_cons_zero, List.set_cons_succ])
                          refine wpAnyH_take (i := 9) (v := ?_) rfl (by kernel_rfl) (by kernel_rfl) (by kernel_rfl) (fun _ _ _ h => h) (Or.inl ⟨by rfl, ?_⟩) (by assumption) ?_
                          rotate_left
                          · intro w hSw; (try dsimp only at hSw); go_simp; (try with_reducible rfl)
                          (try simp only [List.getElem_toArray, List.getElem_cons_succ, List.getElem_cons_zero, Act.put, List.setIfInBounds_toArray, List.set_cons_zero, List.set_cons_succ])
                          refine wpAnyH_done (by kernel_rfl) ?_ _
                          refine NoPanic.normal ?_
                          clear hHeld
                          go_wp2_with fail
                          go_roundw
                          case rel => exact ⟨i + 1, xd, u, y, ay, cy, a1, a2, c1, c2, K + 1, _, _, _, by omega, rfl, rfl, rfl, by go_num, by omega, HLp.out⟩
                          case measure => simp [intOf]; omega
                      · rw [if_pos (by rfl)]
                        refine wp_buildSlice_eq 28 1 #[(0, .tmp 161)] rfl #[(0, .agg (y.row ay cy).toArray)] (by kernel_rfl) _ (build_node y ay cy hn32.out _) ?_
                        have hBn := on_alloc (Below.refl wi.drew.heap.size wi.drew) (.cells (y.row ay cy).toArray 30)
                        have hSn := Sl.made wi.drew 30 41 1 1 (y.row ay cy).toArray (0, 0) (y.row ay cy) (List.toList_toArray ..) (by rw [n41.out]) (by omega)
                        generalize wi.drew.alloc (.cells (y.row ay cy).toArray 30) = wn at hBn hSn ⊢
                        obtain ⟨gn, hgn⟩ : ∃ g, g = wi.drew.heap.size := ⟨_, rfl⟩
                        have Hgnw := Lib.hid (show wi.drew.heap.size ≤ gn by rw [hgn]; exact (Nat.le_refl _))
                        rw [← hgn] at hSn ⊢
                        clear hgn
                        have HBn := Lib.hid hBn
                        have HSn := Lib.hid hSn
                        have HMn := Lib.hid (rangeAt_kept HM0.out (Upd.below hBn (fun _ => False)) id)
                        clear hBn hSn
                        refine hKK.out _ _ HMn.out (fun hHeld => ?_)
                        clear hKK KK
                        (try simp only [List.getElem_toArray, List.getElem_cons_succ, List.getElem_cons_zero, Act.put, List.setIfInBounds_toArray, List.set_cons_zero, List.set_cons_succ])
                        refine wpAnyH_ready (rs := [2]) (by kernel_rfl) (by simp) ?_
                        refine AllReadyH.cons rfl (fun KK hKK => ?_) AllReadyH.nil
                        rw [if_pos (by rfl)]
                        refine wp_buildSlice_eq 89 1 #[(0, .tmp 157)] rfl #[(0, .pointer (some ⟨u, 0, none⟩))] (by kernel_rfl) _ (build_ptrL u _) ?_
                        have hBp := on_alloc (Below.refl wn.heap.size wn) (.cells #[.pointer (some ⟨u, 0, none⟩)] 55)
                        have hSp := Sl.made wn 55 1 1 1 #[.pointer (some ⟨u, 0, none⟩)] (0, 0) [.pointer (some ⟨u, 0, none⟩)] rfl rfl (by omega)
                        generalize wn.alloc (.cells #[.pointer (some ⟨u, 0, none⟩)] 55) = wp at hBp hSp ⊢
                        obtain ⟨gp, hgp⟩ : ∃ g, g = wn.heap.size := ⟨_, rfl⟩
                        rw [← hgp] at hSp ⊢
                        clear hgp
                        have HBp := Lib.hid hBp
                        have HSp := Lib.hid hSp
                        have HMp := Lib.hid (rangeAt_kept HMn.out (Upd.below hBp (fun _ => False)) id)
                        clear hBp hSp
                        refine hKK.out _ _ HMp.out (fun hHeld => ?_)
                        clear hKK KK
                        (try simp only [List.getElem_toArray, List.getElem_cons_succ, List.getElem_cons_zero, Act.put, List.setIfInBounds_toArray, List.set_cons_zero, List.set_cons_succ])
                        have HB2 := Lib.hid (HBn.out.trans (HBp.out.mono HBn.out.size))
                        refine wpAnyH_ready (rs := [3]) (by kernel_rfl) (by simp) ?_
                        refine AllReadyH.cons rfl (fun KK hKK => ?_) AllReadyH.nil
                        refine step_append_any rfl (.tmp 156) (.tmp 158) 89 rfl 55 ip0 (.pointer none) 1 8 Try.underlying89 hip hip0 hip1 hip2 rfl (by decide) (.slice ao K co) K (ptrs ps) (.slice (some ⟨gp, 0, none⟩) 1 1) 1 [.pointer (some ⟨u, 0, none⟩)] rfl rfl (HD.out.old.kept (Upd.below HB2.out (fun _ => False)) (fun _ _ => id)) HSp.out (by intro u hu; simp at hu; rw [hu]; rfl) (by omega) (by omega) ?_
                        intro a1 c1 wq ho hg hn
                        have uq : Upd (fun b => (Value.slice ao K co).ownBlock = some b) wp wq := Upd.grown (Upd.refl _ wp) hg (fun b hb _ => hb)
                        have HMq := Lib.hid (rangeAt_kept HMp.out uq HD.out.sepo.2)
                        have Hap := Lib.hid (And.intro ho (And.intro hg hn))
                        have Huq := Lib.hid uq
                        clear ho hg hn uq
                        refine hKK.out _ _ HMq.out (fun hHeld => ?_)
                        clear hKK KK
                        (try simp only [List.getElem_toArray, List.getElem_cons_succ, List.getElem_cons_zero, Act.put, List.setIfInBounds_toArray, List.set_cons_zero, List.set_cons_succ])
                        refine wpAnyH_ready (rs := [7]) (by kernel_rfl) (by simp) ?_
                        refine AllReadyH.cons rfl (fun KK hKK => ?_) AllReadyH.nil
                        refine step_append_any rfl (.tmp 160) (.tmp 162) 28 rfl 30 i0 _ 41 128 Try.underlying28 hi0 hz0 hz1 hz2 rfl (by decide) (.slice aw K cw) K (rowsOf ws al) (.slice (some ⟨gn, 0, none⟩) 1 1) 1 (y.row ay cy) rfl rfl ((HD.out.was.kept (Upd.below HB2.out (fun _ => False)) (fun _ _ => id)).kept Huq.out (fun b hb e => HD.out.old.parted HD.out.was (by decide) b e hb)) ((HSn.out.kept (Upd.below HBp.out (fun _ => False)) (fun _ _ _ => id)).kept Huq.out (fun b hb _ e => by have h1 := HD.out.old.lt e; have h2 := Hgnw.out; simp [Value.ownBlock] at hb; omega)) (nrow_one _ _ _ _ _ _) (by omega) (by omega) ?_
                        intro a2 c2 wz ho2 hg2 hn2
                        have HLp := Lib.hid (HD.out.push HB2.out Hap.out.1 Hap.out.2.1 Hap.out.2.2 (Below.refl _ _) ho2 hg2 hn2)
                        have HMz := Lib.hid (rangeAt_row HLp.out.row)
                        clear ho2 hg2 hn2 Hap
                        refine hKK.out _ _ HMz.out (fun hHeld => ?_)
                        clear hKK KK
                        (try simp only [List.getElem_toArray, List.getElem_cons_succ, List.getElem_cons_zero, Act.put, List.setIfInBounds_toArray, List.set_cons_zero, List.set_cons_succ])
                        refine wpAnyH_take (i := 8) (v := ?_) rfl (by kernel_rfl) (by kernel_rfl) (by kernel_rfl) (fun _ _ _ h => h) (Or.inl ⟨by rfl, ?_⟩) (by assumption) ?_
                        rotate_left
                        · intro w hSw; (try dsimp only at hSw); go_simp; (try with_reducible rfl)
                        (try simp only [List.getElem_toArray, List.getElem_cons_succ, List.getElem_cons_zero, Act.put, List.setIfInBounds_toArray, List.set_cons_zero, List.set_cons_succ])
                        refine wpAnyH_take (i := 9) (v := ?_) rfl (by kernel_rfl) (by kernel_rfl) (by kernel_rfl) (fun _ _ _ h => h) (Or.inl ⟨by rfl, ?_⟩) (by assumption) ?_
                        rotate_left
                        · intro w hSw; (try dsimp only at hSw); go_simp; (try with_reducible rfl)
                        (try simp only [List.getElem_toArray, List.getElem_cons_succ, List.getElem_cons_zero, Act.put, List.setIfInBounds_toArray, List.set_cons_zero, List.set_cons_succ])
                        refine wpAnyH_done (by kernel_rfl) ?_ _
                        refine NoPanic.normal ?_
                        clear hHeld
                        go_wp2_with fail
                        go_roundw
                        case rel => exact ⟨i + 1, xd, u, y, ay, cy, a1, a2, c1, c2, K + 1, _, _, _, by omega, rfl, rfl, rfl, by go_num, by omega, HLp.out⟩
                        case measure => simp [intOf]; omega
                  · have e249 : ((rm : Int) == 249) = false := beq_f (by omega)
                    go_wp2_with fail
                    go_roundw
                    case rel => exact ⟨i + 1, xd, u, y, ay, cy, ao, aw, co, cw, K, ps, ws, al, by omega, rfl, rfl, rfl, by go_num, by omega, HL.out⟩
                    case measure => simp [intOf]; omega
              · as_aux_lemma =>
                  have hput := put_bad (fun b => GB wa X M (.slice ao K co) (.slice aw K cw) b ∨ wd.heap.size ≤ b) dt 1 we t sq m (bareL v) q Htde.out Hsq.out HLa.out.ris (by omega) (by rw [hbc]; omega) hq9 hpe
                  have hrp0 := fun (wf : World) (hn : NodeIn wf (fun b => b < wf.heap.size) dn m am) => refPut_ok (fun b => b < wf.heap.size) dn 0 wf m (bareL v) q am none cm 0 hn (bareL_in _ _ _ Hvwf.out) (fun b hb => hb) (by omega) (show (1 : Nat) ≤ 1000000 by omega) hq9 (Nat.le_trans (put_parts m v hq19) (by omega))
                  obtain ⟨y, hy⟩ : ∃ y, y = putRes m q (bareL v) := ⟨_, rfl⟩
                  obtain ⟨er, her⟩ : ∃ er, er = putErr m q (bareL v) := ⟨_, rfl⟩
                  rw [← her] at hput hpe
                  rw [← HCB.out, ← hy, ← her] at hrp0
                  have Hput := Lib.hid hput
                  have Hrp0 := Lib.hid hrp0
                  have er0 : (er == 0) = false := beq_f hpe
                  clear hput hrp0 hy her
                  go_wp2_with fail
                  refine Hput.out.mono ?_
                  rintro e12 wf ⟨rfl, hbf⟩
                  have HMf := Lib.hid ((hbf.block M (lt_heap HMe.out)).trans HMe.out)
                  have HVf := Lib.hid ((hbf.block V (lt_heap HVe.out)).trans HVe.out)
                  have HYf := Lib.hid ((hbf.block Y (lt_heap HYe.out)).trans HYe.out)
                  have Haf := Lib.hid (Hae.out.trans (Upd.below hbf (fun b => b = X)))
                  have HTf := Lib.hid ((hbf.block X (lt_heap HTe.out)).trans HTe.out)
                  have hef : we.heap.size ≤ wf.heap.size := hbf.size
                  have Hrp := Lib.hid (Hrp0.out wf ((Hnde.out.below hbf).mono (fun b _ hl => hl)))
                  clear hbf Hput Hnde Htde Hsq Hrp0
                  go_wp2_with (first | (refine wpList_load_midg (by rfl) 30 (.tmp 10) rfl M 0 rfl (m.row am cm) _ (rangeAt_row HMf.out) Try.underlying30 rfl (by rw [mm41.out]; kernel_rfl) ?_) | (refine wpList_load_midg (by rfl) 24 (.tmp 18) rfl V 0 rfl v.cells _ (rangeAt_row HVf.out) Try.underlying24 rfl (by rw [hv35.out]; kernel_rfl) ?_; rw [← HVA.out]) | (refine wpList_build_eq (by rfl) 30 #[(1, .tmp 116)] rfl #[(1, .agg VA)] (by kernel_rfl) (.agg CB) (HbN.out _) ?_))
                  refine Hrp.out.mono ?_
                  rintro e13 wg ⟨ay, cy, rfl, hny, hbg⟩
                  have HMg := Lib.hid ((hbg.block M (lt_heap HMf.out)).trans HMf.out)
                  have HVg := Lib.hid ((hbg.block V (lt_heap HVf.out)).trans HVf.out)
                  have HYg := Lib.hid ((hbg.block Y (lt_heap HYf.out)).trans HYf.out)
                  have Hag := Lib.hid (Haf.out.trans (Upd.below hbg (fun b => b = X)))
                  have HTg := Lib.hid ((hbg.block X (lt_heap HTf.out)).trans HTf.out)
                  have hfg : wf.heap.size ≤ wg.heap.size := hbg.size
                  obtain ⟨E, hE⟩ : ∃ E : Array Value, E = (y.row ay cy).toArray := ⟨_, rfl⟩
                  have Es := Lib.hid (show E.size = 41 by rw [hE, List.size_toArray]; exact row_len hny.vwf)
                  have Eo := Lib.hid (show E.all (·.oneCell') = true by rw [hE]; exact all_one (nrow_one _ _ _ _ _ _))
                  have HE := Lib.hid hE
                  rw [← hE]
                  clear hE
                  go_wp2_with (refine wpList_store_rowg rfl 30 (.tmp 21) (.tmp 119) rfl Y E rfl rfl 30 Z HYg.out (by rw [Es.out]; kernel_rfl) (by rw [Es.out, hZs.out]) Eo.out ?_)
                  intro wh hrh huh
                  rw [HE.out] at hrh
                  have Hyrow := Lib.hid hrh
                  have hUh : Upd (fun b => b = X) wa wh := Hag.out.then huh (fun b hb e => by have e' : b = Y := e; omega)
                  have HLh := Lib.hid (HLa.out.keep Hxd.out hUh (fun b hb => .inl hb) (huh.at_ HTg.out (by omega)) (huh.at_ HMg.out hMY))
                  have Huh := Lib.hid huh
                  have hgh : wg.heap.size ≤ wh.heap.size := huh.size
                  clear hrh huh hUh HE
                  clear Hrp hny hbg Huh Es Eo
                  have HL := Lib.hid HLh.out.later
                  clear HLh
                  skip
                  obtain ⟨rm, hrm⟩ : ∃ r, r = i % 250 := ⟨_, rfl⟩
                  have em : (i : Int).tmod 250 = (rm : Int) := by rw [hrm]; rfl
                  clear hrm
                  by_cases h249 : rm = 249
                  · as_aux_lemma =>
                      subst h249
                      go_wp2_with fail
                      clear em
                      have HD := Lib.hid (HL.out.below (on_drew (Below.refl wh.heap.size wh)))
                      have HM0 := Lib.hid (rangeAt_row HD.out.row)
                      obtain ⟨dnn, hnn⟩ := HD.out.now.node
                      have hn32 := Lib.hid hnn.vwf.1
                      have n41 := Lib.hid (row_len (n := m) (a := am) (c := cm) hnn.vwf)
                      have infn : (Try.prog.info? 30).map (·.size) = some (m.row am cm).length := by rw [n41.out]; kernel_rfl
                      clear hnn
                      refine wp_region_noPanic ?_
                      refine wp_region_held_drew (S := (fun w' => w'.rangeAt M 0 (m.row am cm))) (by kernel_rfl) HM0.out (fun hHeld => ?_)
                      refine wpAnyH_take (i := 0) (v := ?_) rfl (by kernel_rfl) (by kernel_rfl) (by kernel_rfl) (fun _ _ _ h => h) (Or.inl ⟨by rfl, ?_⟩) (by assumption) ?_
                      rotate_left
                      · intro w hSw; (try dsimp only at hSw); go_simp; (try with_reducible rfl)
                      (try simp only [List.getElem_toArray, List.getElem_cons_succ, List.getElem_cons_zero, Act.put, List.setIfInBounds_toArray, List.set_cons_zero, List.set_cons_succ])
                      refine wpAnyH_take (i := 1) (v := ?_) rfl (by kernel_rfl) (by kernel_rfl) (by kernel_rfl) (fun _ _ _ h => h) (Or.inl ⟨by rfl, ?_⟩) (by assumption) ?_
                      rotate_left
                      · intro w hSw; (try dsimp only at hSw); go_simp; (try with_reducible rfl)
                      (try simp only [List.getElem_toArray, List.getElem_cons_succ, List.getElem_cons_zero, Act.put, List.setIfInBounds_toArray, List.set_cons_zero, List.set_cons_succ])
                      refine wpAnyH_take (i := 4) (v := ?_) rfl (by kernel_rfl) (by kernel_rfl) (by kernel_rfl) (fun _ _ _ h => h) (Or.inl ⟨by rfl, ?_⟩) (by assumption) ?_
                      rotate_left
                      · intro w hSw; (try dsimp only at hSw); go_simp; (try with_reducible rfl)
                      (try simp only [List.getElem_toArray, List.getElem_cons_succ, List.getElem_cons_zero, Act.put, List.setIfInBounds_toArray, List.set_cons_zero, List.set_cons_succ])
                      refine wpAnyH_take (i := 5) (v := _) rfl (by kernel_rfl) (by kernel_rfl) (by kernel_rfl) (fun _ _ _ h => h) (yieldsIf_load_mid (by rfl) 30 (.tmp 10) rfl M 0 rfl (m.row am cm) _ (fun w hSw => hSw) und41 rfl infn) (by assumption) ?_
                      (try simp only [List.getElem_toArray, List.getElem_cons_succ, List.getElem_cons_zero, Act.put, List.setIfInBounds_toArray, List.set_cons_zero, List.set_cons_succ])
                      refine wpAnyH_ready (rs := [2, 6]) (by kernel_rfl) (by simp) ?_
                      refine AllReadyH.cons rfl (fun KK hKK => ?_) (AllReadyH.cons rfl (fun KK hKK => ?_) AllReadyH.nil)
                      · rw [if_pos (by rfl)]
                        refine wp_buildSlice_eq 89 1 #[(0, .tmp 157)] rfl #[(0, .pointer (some ⟨t, 0, none⟩))] (by kernel_rfl) _ (build_ptrL t _) ?_
                        have hBp := on_alloc (Below.refl wh.drew.heap.size wh.drew) (.cells #[.pointer (some ⟨t, 0, none⟩)] 55)
                        have hSp := Sl.made wh.drew 55 1 1 1 #[.pointer (some ⟨t, 0, none⟩)] (0, 0) [.pointer (some ⟨t, 0, none⟩)] rfl rfl (by omega)
                        generalize wh.drew.alloc (.cells #[.pointer (some ⟨t, 0, none⟩)] 55) = wp at hBp hSp ⊢
                        obtain ⟨gp, hgp⟩ : ∃ g, g = wh.drew.heap.size := ⟨_, rfl⟩
                        rw [← hgp] at hSp ⊢
                        clear hgp
                        have HBp := Lib.hid hBp
                        have HSp := Lib.hid hSp
                        have HMp := Lib.hid (rangeAt_kept HM0.out (Upd.below hBp (fun _ => False)) id)
                        clear hBp hSp
                        refine hKK.out _ _ HMp.out (fun hHeld => ?_)
                        clear hKK KK
                        (try simp only [List.getElem_toArray, List.getElem_cons_succ, List.getElem_cons_zero, Act.put, List.setIfInBounds_toArray, List.set_cons_zero, List.set_cons_succ])
                        refine wpAnyH_ready (rs := [3, 6]) (by kernel_rfl) (by simp) ?_
                        refine AllReadyH.cons rfl (fun KK hKK => ?_) (AllReadyH.cons rfl (fun KK hKK => ?_) AllReadyH.nil)
                        · refine step_append_any rfl (.tmp 156) (.tmp 158) 89 rfl 55 ip0 (.pointer none) 1 8 Try.underlying89 hip hip0 hip1 hip2 rfl (by decide) (.slice ao K co) K (ptrs ps) (.slice (some ⟨gp, 0, none⟩) 1 1) 1 [.pointer (some ⟨t, 0, none⟩)] rfl rfl (HD.out.old.kept (Upd.below HBp.out (fun _ => False)) (fun _ _ => id)) HSp.out (by intro u hu; simp at hu; rw [hu]; rfl) (by omega) (by omega) ?_
                          intro a1 c1 wq ho hg hn
                          have uq : Upd (fun b => (Value.slice ao K co).ownBlock = some b) wp wq := Upd.grown (Upd.refl _ wp) hg (fun b hb _ => hb)
                          have HMq := Lib.hid (rangeAt_kept HMp.out uq HD.out.sepo.2)
                          have Hap := Lib.hid (And.intro ho (And.intro hg hn))
                          have Huq := Lib.hid uq
                          clear ho hg hn uq
                          refine hKK.out _ _ HMq.out (fun hHeld => ?_)
                          clear hKK KK
                          (try simp only [List.getElem_toArray, List.getElem_cons_succ, List.getElem_cons_zero, Act.put, List.setIfInBounds_toArray, List.set_cons_zero, List.set_cons_succ])
                          refine wpAnyH_ready (rs := [6]) (by kernel_rfl) (by simp) ?_
                          refine AllReadyH.cons rfl (fun KK hKK => ?_) AllReadyH.nil
                          rw [if_pos (by rfl)]
                          refine wp_buildSlice_eq 28 1 #[(0, .tmp 161)] rfl #[(0, .agg (m.row am cm).toArray)] (by kernel_rfl) _ (build_node m am cm hn32.out _) ?_
                          have hBn := on_alloc (Below.refl wq.heap.size wq) (.cells (m.row am cm).toArray 30)
                          have hSn := Sl.made wq 30 41 1 1 (m.row am cm).toArray (0, 0) (m.row am cm) (List.toList_toArray ..) (by rw [n41.out]) (by omega)
                          generalize wq.alloc (.cells (m.row am cm).toArray 30) = wn at hBn hSn ⊢
                          obtain ⟨gn, hgn⟩ : ∃ g, g = wq.heap.size := ⟨_, rfl⟩
                          have Hgnw := Lib.hid (show wh.drew.heap.size ≤ gn by rw [hgn]; exact (Nat.le_trans HBp.out.size Huq.out.size))
                          rw [← hgn] at hSn ⊢
                          clear hgn
                          have HBn := Lib.hid hBn
                          have HSn := Lib.hid hSn
                          have HMn := Lib.hid (rangeAt_kept HMq.out (Upd.below hBn (fun _ => False)) id)
                          clear hBn hSn
                          refine hKK.out _ _ HMn.out (fun hHeld => ?_)
                          clear hKK KK
                          (try simp only [List.getElem_toArray, List.getElem_cons_succ, List.getElem_cons_zero, Act.put, List.setIfInBounds_toArray, List.set_cons_zero, List.set_cons_succ])
                          refine wpAnyH_ready (rs := [7]) (by kernel_rfl) (by simp) ?_
                          refine AllReadyH.cons rfl (fun KK hKK => ?_) AllReadyH.nil
                          refine step_append_any rfl (.tmp 160) (.tmp 162) 28 rfl 30 i0 _ 41 128 Try.underlying28 hi0 hz0 hz1 hz2 rfl (by decide) (.slice aw K cw) K (rowsOf ws al) (.slice (some ⟨gn, 0, none⟩) 1 1) 1 (m.row am cm) rfl rfl (((HD.out.was.kept (Upd.below HBp.out (fun _ => False)) (fun _ _ => id)).kept Huq.out (fun b hb e => HD.out.old.parted HD.out.was (by decide) b e hb)).kept (Upd.below HBn.out (fun _ => False)) (fun _ _ => id)) HSn.out (nrow_one _ _ _ _ _ _) (by omega) (by omega) ?_
                          intro a2 c2 wz ho2 hg2 hn2
                          have HLp := Lib.hid (HD.out.push HBp.out Hap.out.1 Hap.out.2.1 Hap.out.2.2 HBn.out ho2 hg2 hn2)
                          have HMz := Lib.hid (rangeAt_row HLp.out.row)
                          clear ho2 hg2 hn2 Hap
                          refine hKK.out _ _ HMz.out (fun hHeld => ?_)
                          clear hKK KK
                          (try simp only [List.getElem_toArray, List.getElem_cons_succ, List.getElem_cons_zero, Act.put, List.setIfInBounds_toArray, List.set_cons_zero, List.set_cons_succ])
                          refine wpAnyH_take (i := 8) (v := ?_) rfl (by kernel_rfl) (by kernel_rfl) (by kernel_rfl) (fun _ _ _ h => h) (Or.inl ⟨by rfl, ?_⟩) (by assumption) ?_
                          rotate_left
                          · intro w hSw; (try dsimp only at hSw); go_simp; (try with_reducible rfl)
                          (try simp only [List.getElem_toArray, List.getElem_cons_succ, List.getElem_cons_zero, Act.put, List.setIfInBounds_toArray, List.set_cons_zero, List.set_cons_succ])
                          refine wpAnyH_take (i := 9) (v := ?_) rfl (by kernel_rfl) (by kernel_rfl) (by kernel_rfl) (fun _ _ _ h => h) (Or.inl ⟨by rfl, ?_⟩) (by assumption) ?_
                          rotate_left
                          · intro w hSw; (try dsimp only at hSw); go_simp; (try with_reducible rfl)
                          (try simp only [List.getElem_toArray, List.getElem_cons_succ, List.getElem_cons_zero, Act.put, List.setIfInBounds_toArray, List.set_cons_zero, List.set_cons_succ])
                          refine wpAnyH_done (by kernel_rfl) ?_ _
                          refine NoPanic.normal ?_
                          clear hHeld
                          go_wp2_with fail
                          go_roundw
                          case rel => exact ⟨i + 1, xd, t, m, am, cm, a1, a2, c1, c2, K + 1, _, _, _, by omega, rfl, rfl, rfl, by go_num, by omega, HLp.out⟩
                          case measure => simp [intOf]; omega
                        · rw [if_pos (by rfl)]
                          refine wp_buildSlice_eq 28 1 #[(0, .tmp 161)] rfl #[(0, .agg (m.row am cm).toArray)] (by kernel_rfl) _ (build_node m am cm hn32.out _) ?_
                          have hBn := on_alloc (Below.refl wp.heap.size wp) (.cells (m.row am cm).toArray 30)
                          have hSn := Sl.made wp 30 41 1 1 (m.row am cm).toArray (0, 0) (m.row am cm) (List.toList_toArray ..) (by rw [n41.out]) (by omega)
                          generalize wp.alloc (.cells (m.row am cm).toArray 30) = wn at hBn hSn ⊢
                          obtain ⟨gn, hgn⟩ : ∃ g, g = wp.heap.size := ⟨_, rfl⟩
                          have Hgnw := Lib.hid (show wh.drew.heap.size ≤ gn by rw [hgn]; exact HBp.out.size)
                          rw [← hgn] at hSn ⊢
                          clear hgn
                          have HBn := Lib.hid hBn
                          have HSn := Lib.hid hSn
                          have HMn := Lib.hid (rangeAt_kept HMp.out (Upd.below hBn (fun _ => False)) id)
                          clear hBn hSn
                          refine hKK.out _ _ HMn.out (fun hHeld => ?_)
                          clear hKK KK
                          (try simp only [List.getElem_toArray, List.getElem_cons_succ, List.getElem_cons_zero, Act.put, List.setIfInBounds_toArray, List.set_cons_zero, List.set_cons_succ])
                          have HB2 := Lib.hid (HBp.out.trans (HBn.out.mono HBp.out.size))
                          refine wpAnyH_ready (rs := [3]) (by kernel_rfl) (by simp) ?_
                          refine AllReadyH.cons rfl (fun KK hKK => ?_) AllReadyH.nil
                          refine step_append_any rfl (.tmp 156) (.tmp 158) 89 rfl 55 ip0 (.pointer none) 1 8 Try.underlying89 hip hip0 hip1 hip2 rfl (by decide) (.slice ao K co) K (ptrs ps) (.slice (some ⟨gp, 0, none⟩) 1 1) 1 [.pointer (some ⟨t, 0, none⟩)] rfl rfl (HD.out.old.kept (Upd.below HB2.out (fun _ => False)) (fun _ _ => id)) (HSp.out.kept (Upd.below HBn.out (fun _ => False)) (fun _ _ _ => id)) (by intro u hu; simp at hu; rw [hu]; rfl) (by omega) (by omega) ?_
                          intro a1 c1 wq ho hg hn
                          have uq : Upd (fun b => (Value.slice ao K co).ownBlock = some b) wn wq := Upd.grown (Upd.refl _ wn) hg (fun b hb _ => hb)
                          have HMq := Lib.hid (rangeAt_kept HMn.out uq HD.out.sepo.2)
                          have Hap := Lib.hid (And.intro ho (And.intro hg hn))
                          have Huq := Lib.hid uq
                          clear ho hg hn uq
                          refine hKK.out _ _ HMq.out (fun hHeld => ?_)
                          clear hKK KK
                          (try simp only [List.getElem_toArray, List.getElem_cons_succ, List.getElem_cons_zero, Act.put, List.setIfInBounds_toArray, List.set_cons_zero, List.set_cons_succ])
                          refine wpAnyH_ready (rs := [7]) (by kernel_rfl) (by simp) ?_
                          refine AllReadyH.cons rfl (fun KK hKK => ?_) AllReadyH.nil
                          refine step_append_any rfl (.tmp 160) (.tmp 162) 28 rfl 30 i0 _ 41 128 Try.underlying28 hi0 hz0 hz1 hz2 rfl (by decide) (.slice aw K cw) K (rowsOf ws al) (.slice (some ⟨gn, 0, none⟩) 1 1) 1 (m.row am cm) rfl rfl ((HD.out.was.kept (Upd.below HB2.out (fun _ => False)) (fun _ _ => id)).kept Huq.out (fun b hb e => HD.out.old.parted HD.out.was (by decide) b e hb)) (HSn.out.kept Huq.out (fun b hb _ e => by have h1 := HD.out.old.lt e; have h2 := Hgnw.out; simp [Value.ownBlock] at hb; omega)) (nrow_one _ _ _ _ _ _) (by omega) (by omega) ?_
                          intro a2 c2 wz ho2 hg2 hn2
                          have HLp := Lib.hid (HD.out.push HB2.out Hap.out.1 Hap.out.2.1 Hap.out.2.2 (Below.refl _ _) ho2 hg2 hn2)
                          have HMz := Lib.hid (rangeAt_row HLp.out.row)
                          clear ho2 hg2 hn2 Hap
                          refine hKK.out _ _ HMz.out (fun hHeld => ?_)
                          clear hKK KK
                          (try simp only [List.getElem_toArray, List.getElem_cons_succ, List.getElem_cons_zero, Act.put, List.setIfInBounds_toArray, List.set_cons_zero, List.set_cons_succ])
                          refine wpAnyH_take (i := 8) (v := ?_) rfl (by kernel_rfl) (by kernel_rfl) (by kernel_rfl) (fun _ _ _ h => h) (Or.inl ⟨by rfl, ?_⟩) (by assumption) ?_
                          rotate_left
                          · intro w hSw; (try dsimp only at hSw); go_simp; (try with_reducible rfl)
                          (try simp only [List.getElem_toArray, List.getElem_cons_succ, List.getElem_cons_zero, Act.put, List.setIfInBounds_toArray, List.set_cons_zero, List.set_cons_succ])
                          refine wpAnyH_take (i := 9) (v := ?_) rfl (by kernel_rfl) (by kernel_rfl) (by kernel_rfl) (fun _ _ _ h => h) (Or.inl ⟨by rfl, ?_⟩) (by assumption) ?_
                          rotate_left
                          · intro w hSw; (try dsimp only at hSw); go_simp; (try with_reducible rfl)
                          (try simp only [List.getElem_toArray, List.getElem_cons_succ, List.getElem_cons_zero, Act.put, List.setIfInBounds_toArray, List.set_cons_zero, List.set_cons_succ])
                          refine wpAnyH_done (by kernel_rfl) ?_ _
                          refine NoPanic.normal ?_
                          clear hHeld
                          go_wp2_with fail
                          go_roundw
                          case rel => exact ⟨i + 1, xd, t, m, am, cm, a1, a2, c1, c2, K + 1, _, _, _, by omega, rfl, rfl, rfl, by go_num, by omega, HLp.out⟩
                          case measure => simp [intOf]; omega
                      · rw [if_pos (by rfl)]
                        refine wp_buildSlice_eq 28 1 #[(0, .tmp 161)] rfl #[(0, .agg (m.row am cm).toArray)] (by kernel_rfl) _ (build_node m am cm hn32.out _) ?_
                        have hBn := on_alloc (Below.refl wh.drew.heap.size wh.drew) (.cells (m.row am cm).toArray 30)
                        have hSn := Sl.made wh.drew 30 41 1 1 (m.row am cm).toArray (0, 0) (m.row am cm) (List.toList_toArray ..) (by rw [n41.out]) (by omega)
                        generalize wh.drew.alloc (.cells (m.row am cm).toArray 30) = wn at hBn hSn ⊢
                        obtain ⟨gn, hgn⟩ : ∃ g, g = wh.drew.heap.size := ⟨_, rfl⟩
                        have Hgnw := Lib.hid (show wh.drew.heap.size ≤ gn by rw [hgn]; exact (Nat.le_refl _))
                        rw [← hgn] at hSn ⊢
                        clear hgn
                        have HBn := Lib.hid hBn
                        have HSn := Lib.hid hSn
                        have HMn := Lib.hid (rangeAt_kept HM0.out (Upd.below hBn (fun _ => False)) id)
                        clear hBn hSn
                        refine hKK.out _ _ HMn.out (fun hHeld => ?_)
                        clear hKK KK
                        (try simp only [List.getElem_toArray, List.getElem_cons_succ, List.getElem_cons_zero, Act.put, List.setIfInBounds_toArray, List.set_cons_zero, List.set_cons_succ])
                        refine wpAnyH_ready (rs := [2]) (by kernel_rfl) (by simp) ?_
                        refine AllReadyH.cons rfl (fun KK hKK => ?_) AllReadyH.nil
                        rw [if_pos (by rfl)]
                        refine wp_buildSlice_eq 89 1 #[(0, .tmp 157)] rfl #[(0, .pointer (some ⟨t, 0, none⟩))] (by kernel_rfl) _ (build_ptrL t _) ?_
                        have hBp := on_alloc (Below.refl wn.heap.size wn) (.cells #[.pointer (some ⟨t, 0, none⟩)] 55)
                        have hSp := Sl.made wn 55 1 1 1 #[.pointer (some ⟨t, 0, none⟩)] (0, 0) [.pointer (some ⟨t, 0, none⟩)] rfl rfl (by omega)
                        generalize wn.alloc (.cells #[.pointer (some ⟨t, 0, none⟩)] 55) = wp at hBp hSp ⊢
                        obtain ⟨gp, hgp⟩ : ∃ g, g = wn.heap.size := ⟨_, rfl⟩
                        rw [← hgp] at hSp ⊢
                        clear hgp
                        have HBp := Lib.hid hBp
                        have HSp := Lib.hid hSp
                        have HMp := Lib.hid (rangeAt_kept HMn.out (Upd.below hBp (fun _ => False)) id)
                        clear hBp hSp
                        refine hKK.out _ _ HMp.out (fun hHeld => ?_)
                        clear hKK KK
                        (try simp only [List.getElem_toArray, List.getElem_cons_succ, List.getElem_cons_zero, Act.put, List.setIfInBounds_toArray, List.set_cons_zero, List.set_cons_succ])
                        have HB2 := Lib.hid (HBn.out.trans (HBp.out.mono HBn.out.size))
                        refine wpAnyH_ready (rs := [3]) (by kernel_rfl) (by simp) ?_
                        refine AllReadyH.cons rfl (fun KK hKK => ?_) AllReadyH.nil
                        refine step_append_any rfl (.tmp 156) (.tmp 158) 89 rfl 55 ip0 (.pointer none) 1 8 Try.underlying89 hip hip0 hip1 hip2 rfl (by decide) (.slice ao K co) K (ptrs ps) (.slice (some ⟨gp, 0, none⟩) 1 1) 1 [.pointer (some ⟨t, 0, none⟩)] rfl rfl (HD.out.old.kept (Upd.below HB2.out (fun _ => False)) (fun _ _ => id)) HSp.out (by intro u hu; simp at hu; rw [hu]; rfl) (by omega) (by omega) ?_
                        intro a1 c1 wq ho hg hn
                        have uq : Upd (fun b => (Value.slice ao K co).ownBlock = some b) wp wq := Upd.grown (Upd.refl _ wp) hg (fun b hb _ => hb)
                        have HMq := Lib.hid (rangeAt_kept HMp.out uq HD.out.sepo.2)
                        have Hap := Lib.hid (And.intro ho (And.intro hg hn))
                        have Huq := Lib.hid uq
                        clear ho hg hn uq
                        refine hKK.out _ _ HMq.out (fun hHeld => ?_)
                        clear hKK KK
                        (try simp only [List.getElem_toArray, List.getElem_cons_succ, List.getElem_cons_zero, Act.put, List.setIfInBounds_toArray, List.set_cons_zero, List.set_cons_succ])
                        refine wpAnyH_ready (rs := [7]) (by kernel_rfl) (by simp) ?_
                        refine AllReadyH.cons rfl (fun KK hKK => ?_) AllReadyH.nil
                        refine step_append_any rfl (.tmp 160) (.tmp 162) 28 rfl 30 i0 _ 41 128 Try.underlying28 hi0 hz0 hz1 hz2 rfl (by decide) (.slice aw K cw) K (rowsOf ws al) (.slice (some ⟨gn, 0, none⟩) 1 1) 1 (m.row am cm) rfl rfl ((HD.out.was.kept (Upd.below HB2.out (fun _ => False)) (fun _ _ => id)).kept Huq.out (fun b hb e => HD.out.old.parted HD.out.was (by decide) b e hb)) ((HSn.out.kept (Upd.below HBp.out (fun _ => False)) (fun _ _ _ => id)).kept Huq.out (fun b hb _ e => by have h1 := HD.out.old.lt e; have h2 := Hgnw.out; simp [Value.ownBlock] at hb; omega)) (nrow_one _ _ _ _ _ _) (by omega) (by omega) ?_
                        intro a2 c2 wz ho2 hg2 hn2
                        have HLp := Lib.hid (HD.out.push HB2.out Hap.out.1 Hap.out.2.1 Hap.out.2.2 (Below.refl _ _) ho2 hg2 hn2)
                        have HMz := Lib.hid (rangeAt_row HLp.out.row)
                        clear ho2 hg2 hn2 Hap
                        refine hKK.out _ _ HMz.out (fun hHeld => ?_)
                        clear hKK KK
                        (try simp only [List.getElem_toArray, List.getElem_cons_succ, List.getElem_cons_zero, Act.put, List.setIfInBounds_toArray, List.set_cons_zero, List.set_cons_succ])
                        refine wpAnyH_take (i := 8) (v := ?_) rfl (by kernel_rfl) (by kernel_rfl) (by kernel_rfl) (fun _ _ _ h => h) (Or.inl ⟨by rfl, ?_⟩) (by assumption) ?_
                        rotate_left
                        · intro w hSw; (try dsimp only at hSw); go_simp; (try with_reducible rfl)
                        (try simp only [List.getElem_toArray, List.getElem_cons_succ, List.getElem_cons_zero, Act.put, List.setIfInBounds_toArray, List.set_cons_zero, List.set_cons_succ])
                        refine wpAnyH_take (i := 9) (v := ?_) rfl (by kernel_rfl) (by kernel_rfl) (by kernel_rfl) (fun _ _ _ h => h) (Or.inl ⟨by rfl, ?_⟩) (by assumption) ?_
                        rotate_left
                        · intro w hSw; (try dsimp only at hSw); go_simp; (try with_reducible rfl)
                        (try simp only [List.getElem_toArray, List.getElem_cons_succ, List.getElem_cons_zero, Act.put, List.setIfInBounds_toArray, List.set_cons_zero, List.set_cons_succ])
                        refine wpAnyH_done (by kernel_rfl) ?_ _
                        refine NoPanic.normal ?_
                        clear hHeld
                        go_wp2_with fail
                        go_roundw
                        case rel => exact ⟨i + 1, xd, t, m, am, cm, a1, a2, c1, c2, K + 1, _, _, _, by omega, rfl, rfl, rfl, by go_num, by omega, HLp.out⟩
                        case measure => simp [intOf]; omega
                  · have e249 : ((rm : Int) == 249) = false := beq_f (by omega)
                    go_wp2_with fail
                    go_roundw
                    case rel => exact ⟨i + 1, xd, t, m, am, cm, ao, aw, co, cw, K, ps, ws, al, by omega, rfl, rfl, rfl, by go_num, by omega, HL.out⟩
                    case measure => simp [intOf]; omega
          have hsw2 : sw = 3 ∨ sw = 4 := by omega
          clear hsw3
          rcases hsw2 with hsw2 | hsw2
          · subst hsw2
            have Hnow := Lib.hid (HLa.out.now.keep (G := GB wa X M (.slice ao K co) (.slice aw K cw)) Had.out (fun b hb e => hb.2.1 e) (fun b hb => hb))
            obtain ⟨dt, htd⟩ := Hnow.out.tree
            obtain ⟨dn, hnd⟩ := Hnow.out.node
            have Htd := Lib.hid htd
            have Hnd := Lib.hid hnd
            have Hmwf := Lib.hid hnd.vwf
            have mm41 := Lib.hid (row_len (n := m) (a := am) (c := cm) hnd.vwf)
            have hmp : m.parts ≤ 601101 := by have := HLa.out.parts; omega
            have hmc : m.cnt ≤ 601101 := Nat.le_trans (cnt_le_parts m) hmp
            have hq9 : q.size ≤ 1000000000 := by omega
            have hMY : M ≠ Y := by omega
            clear htd hnd Hnow
            have hmk : mwf noMk := by unfold mwf noMk i64; dsimp only; omega
            obtain ⟨MA, hMA⟩ : ∃ A : Array Value, A = (mcells noMk).toArray := ⟨_, rfl⟩
            have HbM := Lib.hid bldLM
            rw [← hMA] at HbM
            have hset := treeSet_any (GB wa X M (.slice ao K co) (.slice aw K cw)) dt wd t m q v noMk Hvwf.out hmk Htd.out HLa.out.ris (by omega) hq9
            have href := fun (wf : World) (hn : NodeIn wf (fun b => b < wf.heap.size) dn m am) => refSet_ok (fun b => b < wf.heap.size) dn wf m q v noMk am cm hn Hvwf.out hmk (fun b hb => hb) (by omega) HLa.out.kinded hq9 (fun k hk => Nat.le_trans (set_parts hk) (by omega)) (fun k hk => by have h1 := setNd_parts v noMk k; have h2 := sub_parts _ _ _ hk; omega)
            rw [← HVA.out, ← hMA] at hset href
            have Hset := Lib.hid hset
            have Href := Lib.hid href
            clear hset href hMA
            go_wp2_with (first | (refine wpList_load_midg (by rfl) 24 (.tmp 18) rfl V 0 rfl v.cells _ (rangeAt_row HVd.out) Try.underlying24 rfl (by rw [hv35.out]; kernel_rfl) ?_; rw [← HVA.out]) | (refine wpList_build_eq (by rfl) 27 #[] rfl #[] (by kernel_rfl) (.agg MA) (HbM.out _) ?_))
            refine Hset.out.mono ?_
            rintro e12 wf ⟨hcase, hbf⟩
            have HMf := Lib.hid ((hbf.block M (lt_heap HMd.out)).trans HMd.out)
            have HVf := Lib.hid ((hbf.block V (lt_heap HVd.out)).trans HVd.out)
            have HYf := Lib.hid ((hbf.block Y (lt_heap HYd.out)).trans HYd.out)
            have Haf := Lib.hid (Had.out.trans (Upd.below hbf (fun b => b = X)))
            have HTf := Lib.hid ((hbf.block X (lt_heap HTd.out)).trans HTd.out)
            have hdf : wd.heap.size ≤ wf.heap.size := hbf.size
            have Hndf := Lib.hid ((Hnd.out.below hbf).mono (G := fun b => b < wf.heap.size) (fun b _ hl => hl))
            clear hbf Hset Htd Hnd
            rcases hcase with ⟨hne, rfl⟩ | ⟨h0, k, r, u, hsk, hwr, rfl, hu⟩
            · as_aux_lemma =>
                obtain ⟨y, hy⟩ : ∃ y, y = setRes m q v noMk := ⟨_, rfl⟩
                have hrp := Href.out wf Hndf.out
                obtain ⟨er, her⟩ : ∃ er, er = setErr m q v noMk := ⟨_, rfl⟩
                rw [← her] at hne hrp
                rw [← her]
                rw [← hy] at hrp
                have Hrp := Lib.hid hrp
                have er0 : (er == 0) = false := beq_f hne
                clear hrp hy her Href
                go_wp2_with (first | (refine wpList_load_midg (by rfl) 30 (.tmp 10) rfl M 0 rfl (m.row am cm) _ (rangeAt_row HMf.out) Try.underlying30 rfl (by rw [mm41.out]; kernel_rfl) ?_) | (refine wpList_load_midg (by rfl) 24 (.tmp 18) rfl V 0 rfl v.cells _ (rangeAt_row HVf.out) Try.underlying24 rfl (by rw [hv35.out]; kernel_rfl) ?_; rw [← HVA.out]) | (refine wpList_build_eq (by rfl) 27 #[] rfl #[] (by kernel_rfl) (.agg MA) (HbM.out _) ?_))
                refine Hrp.out.mono ?_
                rintro e13 wg ⟨ay, cy, rfl, hny, hbg⟩
                have HMg := Lib.hid ((hbg.block M (lt_heap HMf.out)).trans HMf.out)
                have HVg := Lib.hid ((hbg.block V (lt_heap HVf.out)).trans HVf.out)
                have HYg := Lib.hid ((hbg.block Y (lt_heap HYf.out)).trans HYf.out)
                have Hag := Lib.hid (Haf.out.trans (Upd.below hbg (fun b => b = X)))
                have HTg := Lib.hid ((hbg.block X (lt_heap HTf.out)).trans HTf.out)
                have hfg : wf.heap.size ≤ wg.heap.size := hbg.size
                obtain ⟨E, hE⟩ : ∃ E : Array Value, E = (y.row ay cy).toArray := ⟨_, rfl⟩
                have Es := Lib.hid (show E.size = 41 by rw [hE, List.size_toArray]; exact row_len hny.vwf)
                have Eo := Lib.hid (show E.all (·.oneCell') = true by rw [hE]; exact all_one (nrow_one _ _ _ _ _ _))
                have HE := Lib.hid hE
                rw [← hE]
                clear hE
                go_wp2_with (refine wpList_store_rowg rfl 30 (.tmp 21) (.tmp 137) rfl Y E rfl rfl 30 Z HYg.out (by rw [Es.out]; kernel_rfl) (by rw [Es.out, hZs.out]) Eo.out ?_)
                intro wh hrh huh
                rw [HE.out] at hrh
                have Hyrow := Lib.hid hrh
                have hUh : Upd (fun b => b = X) wa wh := Hag.out.then huh (fun b hb e => by have e' : b = Y := e; omega)
                have HLh := Lib.hid (HLa.out.keep Hxd.out hUh (fun b hb => .inl hb) (huh.at_ HTg.out (by omega)) (huh.at_ HMg.out hMY))
                have Huh := Lib.hid huh
                have hgh : wg.heap.size ≤ wh.heap.size := huh.size
                clear hrh huh hUh HE
                clear Hrp hny hbg Huh Es Eo
                have HL := Lib.hid HLh.out.later
                clear HLh
                skip
                obtain ⟨rm, hrm⟩ : ∃ r, r = i % 250 := ⟨_, rfl⟩
                have em : (i : Int).tmod 250 = (rm : Int) := by rw [hrm]; rfl
                clear hrm
                by_cases h249 : rm = 249
                · as_aux_lemma =>
                    subst h249
                    go_wp2_with fail
                    clear em
                    have HD := Lib.hid (HL.out.below (on_drew (Below.refl wh.heap.size wh)))
                    have HM0 := Lib.hid (rangeAt_row HD.out.row)
                    obtain ⟨dnn, hnn⟩ := HD.out.now.node
                    have hn32 := Lib.hid hnn.vwf.1
                    have n41 := Lib.hid (row_len (n := m) (a := am) (c := cm) hnn.vwf)
                    have infn : (Try.prog.info? 30).map (·.size) = some (m.row am cm).length := by rw [n41.out]; kernel_rfl
                    clear hnn
                    refine wp_region_noPanic ?_
                    refine wp_region_held_drew (S := (fun w' => w'.rangeAt M 0 (m.row am cm))) (by kernel_rfl) HM0.out (fun hHeld => ?_)
                    refine wpAnyH_take (i := 0) (v := ?_) rfl (by kernel_rfl) (by kernel_rfl) (by kernel_rfl) (fun _ _ _ h => h) (Or.inl ⟨by rfl, ?_⟩) (by assumption) ?_
                    rotate_left
                    · intro w hSw; (try dsimp only at hSw); go_simp; (try with_reducible rfl)
                    (try simp only [List.getElem_toArray, List.getElem_cons_succ, List.getElem_cons_zero, Act.put, List.setIfInBounds_toArray, List.set_cons_zero, List.set_cons_succ])
                    refine wpAnyH_take (i := 1) (v := ?_) rfl (by kernel_rfl) (by kernel_rfl) (by kernel_rfl) (fun _ _ _ h => h) (Or.inl ⟨by rfl, ?_⟩) (by assumption) ?_
                    rotate_left
                    · intro w hSw; (try dsimp only at hSw); go_simp; (try with_reducible rfl)
                    (try simp only [List.getElem_toArray, List.getElem_cons_succ, List.getElem_cons_zero, Act.put, List.setIfInBounds_toArray, List.set_cons_zero, List.set_cons_succ])
                    refine wpAnyH_take (i := 4) (v := ?_) rfl (by kernel_rfl) (by kernel_rfl) (by kernel_rfl) (fun _ _ _ h => h) (Or.inl ⟨by rfl, ?_⟩) (by assumption) ?_
                    rotate_left
                    · intro w hSw; (try dsimp only at hSw); go_simp; (try with_reducible rfl)
                    (try simp only [List.getElem_toArray, List.getElem_cons_succ, List.getElem_cons_zero, Act.put, List.setIfInBounds_toArray, List.set_cons_zero, List.set_cons_succ])
                    refine wpAnyH_take (i := 5) (v := _) rfl (by kernel_rfl) (by kernel_rfl) (by kernel_rfl) (fun _ _ _ h => h) (yieldsIf_load_mid (by rfl) 30 (.tmp 10) rfl M 0 rfl (m.row am cm) _ (fun w hSw => hSw) und41 rfl infn) (by assumption) ?_
                    (try simp only [List.getElem_toArray, List.getElem_cons_succ, List.getElem_cons_zero, Act.put, List.setIfInBounds_toArray, List.set_cons_zero, List.set_cons_succ])
                    refine wpAnyH_ready (rs := [2, 6]) (by kernel_rfl) (by simp) ?_
                    refine AllReadyH.cons rfl (fun KK hKK => ?_) (AllReadyH.cons rfl (fun KK hKK => ?_) AllReadyH.nil)
                    · rw [if_pos (by rfl)]
                      refine wp_buildSlice_eq 89 1 #[(0, .tmp 157)] rfl #[(0, .pointer (some ⟨t, 0, none⟩))] (by kernel_rfl) _ (build_ptrL t _) ?_
                      have hBp := on_alloc (Below.refl wh.drew.heap.size wh.drew) (.cells #[.pointer (some ⟨t, 0, none⟩)] 55)
                      have hSp := Sl.made wh.drew 55 1 1 1 #[.pointer (some ⟨t, 0, none⟩)] (0, 0) [.pointer (some ⟨t, 0, none⟩)] rfl rfl (by omega)
                      generalize wh.drew.alloc (.cells #[.pointer (some ⟨t, 0, none⟩)] 55) = wp at hBp hSp ⊢
                      obtain ⟨gp, hgp⟩ : ∃ g, g = wh.drew.heap.size := ⟨_, rfl⟩
                      rw [← hgp] at hSp ⊢
                      clear hgp
                      have HBp := Lib.hid hBp
                      have HSp := Lib.hid hSp
                      have HMp := Lib.hid (rangeAt_kept HM0.out (Upd.below hBp (fun _ => False)) id)
                      clear hBp hSp
                      refine hKK.out _ _ HMp.out (fun hHeld => ?_)
                      clear hKK KK
                      (try simp only [List.getElem_toArray, List.getElem_cons_succ, List.getElem_cons_zero, Act.put, List.setIfInBounds_toArray, List.set_cons_zero, List.set_cons_succ])
                      refine wpAnyH_ready (rs := [3, 6]) (by kernel_rfl) (by simp) ?_
                      refine AllReadyH.cons rfl (fun KK hKK => ?_) (AllReadyH.cons rfl (fun KK hKK => ?_) AllReadyH.nil)
                      · refine step_append_any rfl (.tmp 156) (.tmp 158) 89 rfl 55 ip0 (.pointer none) 1 8 Try.underlying89 hip hip0 hip1 hip2 rfl (by decide) (.slice ao K co) K (ptrs ps) (.slice (some ⟨gp, 0, none⟩) 1 1) 1 [.pointer (some ⟨t, 0, none⟩)] rfl rfl (HD.out.old.kept (Upd.below HBp.out (fun _ => False)) (fun _ _ => id)) HSp.out (by intro u hu; simp at hu; rw [hu]; rfl) (by omega) (by omega) ?_
                        intro a1 c1 wq ho hg hn
                        have uq : Upd (fun b => (Value.slice ao K co).ownBlock = some b) wp wq := Upd.grown (Upd.refl _ wp) hg (fun b hb _ => hb)
                        have HMq := Lib.hid (rangeAt_kept HMp.out uq HD.out.sepo.2)
                        have Hap := Lib.hid (And.intro ho (And.intro hg hn))
                        have Huq := Lib.hid uq
                        clear ho hg hn uq
                        refine hKK.out _ _ HMq.out (fun hHeld => ?_)
                        clear hKK KK
                        (try simp only [List.getElem_toArray, List.getElem_cons_succ, List.getElem_cons_zero, Act.put, List.setIfInBounds_toArray, List.set_cons_zero, List.set_cons_succ])
                        refine wpAnyH_ready (rs := [6]) (by kernel_rfl) (by simp) ?_
                        refine AllReadyH.cons rfl (fun KK hKK => ?_) AllReadyH.nil
                        rw [if_pos (by rfl)]
                        refine wp_buildSlice_eq 28 1 #[(0, .tmp 161)] rfl #[(0, .agg (m.row am cm).toArray)] (by kernel_rfl) _ (build_node m am cm hn32.out _) ?_
                        have hBn := on_alloc (Below.refl wq.heap.size wq) (.cells (m.row am cm).toArray 30)
                        have hSn := Sl.made wq 30 41 1 1 (m.row am cm).toArray (0, 0) (m.row am cm) (List.toList_toArray ..) (by rw [n41.out]) (by omega)
                        generalize wq.alloc (.cells (m.row am cm).toArray 30) = wn at hBn hSn ⊢
                        obtain ⟨gn, hgn⟩ : ∃ g, g = wq.heap.size := ⟨_, rfl⟩
                        have Hgnw := Lib.hid (show wh.drew.heap.size ≤ gn by rw [hgn]; exact (Nat.le_trans HBp.out.size Huq.out.size))
                        rw [← hgn] at hSn ⊢
                        clear hgn
                        have HBn := Lib.hid hBn
                        have HSn := Lib.hid hSn
                        have HMn := Lib.hid (rangeAt_kept HMq.out (Upd.below hBn (fun _ => False)) id)
                        clear hBn hSn
                        refine hKK.out _ _ HMn.out (fun hHeld => ?_)
                        clear hKK KK
                        (try simp only [List.getElem_toArray, List.getElem_cons_succ, List.getElem_cons_zero, Act.put, List.setIfInBounds_toArray, List.set_cons_zero, List.set_cons_succ])
                        refine wpAnyH_ready (rs := [7]) (by kernel_rfl) (by simp) ?_
                        refine AllReadyH.cons rfl (fun KK hKK => ?_) AllReadyH.nil
                        refine step_append_any rfl (.tmp 160) (.tmp 162) 28 rfl 30 i0 _ 41 128 Try.underlying28 hi0 hz0 hz1 hz2 rfl (by decide) (.slice aw K cw) K (rowsOf ws al) (.slice (some ⟨gn, 0, none⟩) 1 1) 1 (m.row am cm) rfl rfl (((HD.out.was.kept (Upd.below HBp.out (fun _ => False)) (fun _ _ => id)).kept Huq.out (fun b hb e => HD.out.old.parted HD.out.was (by decide) b e hb)).kept (Upd.below HBn.out (fun _ => False)) (fun _ _ => id)) HSn.out (nrow_one _ _ _ _ _ _) (by omega) (by omega) ?_
                        intro a2 c2 wz ho2 hg2 hn2
                        have HLp := Lib.hid (HD.out.push HBp.out Hap.out.1 Hap.out.2.1 Hap.out.2.2 HBn.out ho2 hg2 hn2)
                        have HMz := Lib.hid (rangeAt_row HLp.out.row)
                        clear ho2 hg2 hn2 Hap
                        refine hKK.out _ _ HMz.out (fun hHeld => ?_)
                        clear hKK KK
                        (try simp only [List.getElem_toArray, List.getElem_cons_succ, List.getElem_cons_zero, Act.put, List.setIfInBounds_toArray, List.set_cons_zero, List.set_cons_succ])
                        refine wpAnyH_take (i := 8) (v := ?_) rfl (by kernel_rfl) (by kernel_rfl) (by kernel_rfl) (fun _ _ _ h => h) (Or.inl ⟨by rfl, ?_⟩) (by assumption) ?_
                        rotate_left
                        · intro w hSw; (try dsimp only at hSw); go_simp; (try with_reducible rfl)
                        (try simp only [List.getElem_toArray, List.getElem_cons_succ, List.getElem_cons_zero, Act.put, List.setIfInBounds_toArray, List.set_cons_zero, List.set_cons_succ])
                        refine wpAnyH_take (i := 9) (v := ?_) rfl (by kernel_rfl) (by kernel_rfl) (by kernel_rfl) (fun _ _ _ h => h) (Or.inl ⟨by rfl, ?_⟩) (by assumption) ?_
                        rotate_left
                        · intro w hSw; (try dsimp only at hSw); go_simp; (try with_reducible rfl)
                        (try simp only [List.getElem_toArray, List.getElem_cons_succ, List.getElem_cons_zero, Act.put, List.setIfInBounds_toArray, List.set_cons_zero, List.set_cons_succ])
                        refine wpAnyH_done (by kernel_rfl) ?_ _
                        refine NoPanic.normal ?_
                        clear hHeld
                        go_wp2_with fail
                        go_roundw
                        case rel => exact ⟨i + 1, xd, t, m, am, cm, a1, a2, c1, c2, K + 1, _, _, _, by omega, rfl, rfl, rfl, by go_num, by omega, HLp.out⟩
                        case measure => simp [intOf]; omega
                      · rw [if_pos (by rfl)]
                        refine wp_buildSlice_eq 28 1 #[(0, .tmp 161)] rfl #[(0, .agg (m.row am cm).toArray)] (by kernel_rfl) _ (build_node m am cm hn32.out _) ?_
                        have hBn := on_alloc (Below.refl wp.heap.size wp) (.cells (m.row am cm).toArray 30)
                        have hSn := Sl.made wp 30 41 1 1 (m.row am cm).toArray (0, 0) (m.row am cm) (List.toList_toArray ..) (by rw [n41.out]) (by omega)
                        generalize wp.alloc (.cells (m.row am cm).toArray 30) = wn at hBn hSn ⊢
                        obtain ⟨gn, hgn⟩ : ∃ g, g = wp.heap.size := ⟨_, rfl⟩
                        have Hgnw := Lib.hid (show wh.drew.heap.size ≤ gn by rw [hgn]; exact HBp.out.size)
                        rw [← hgn] at hSn ⊢
                        clear hgn
                        have HBn := Lib.hid hBn
                        have HSn := Lib.hid hSn
                        have HMn := Lib.hid (rangeAt_kept HMp.out (Upd.below hBn (fun _ => False)) id)
                        clear hBn hSn
                        refine hKK.out _ _ HMn.out (fun hHeld => ?_)
                        clear hKK KK
                        (try simp only [List.getElem_toArray, List.getElem_cons_succ, List.getElem_cons_zero, Act.put, List.setIfInBounds_toArray, List.set_cons_zero, List.set_cons_succ])
                        have HB2 := Lib.hid (HBp.out.trans (HBn.out.mono HBp.out.size))
                        refine wpAnyH_ready (rs := [3]) (by kernel_rfl) (by simp) ?_
                        refine AllReadyH.cons rfl (fun KK hKK => ?_) AllReadyH.nil
                        refine step_append_any rfl (.tmp 156) (.tmp 158) 89 rfl 55 ip0 (.pointer none) 1 8 Try.underlying89 hip hip0 hip1 hip2 rfl (by decide) (.slice ao K co) K (ptrs ps) (.slice (some ⟨gp, 0, none⟩) 1 1) 1 [.pointer (some ⟨t, 0, none⟩)] rfl rfl (HD.out.old.kept (Upd.below HB2.out (fun _ => False)) (fun _ _ => id)) (HSp.out.kept (Upd.below HBn.out (fun _ => False)) (fun _ _ _ => id)) (by intro u hu; simp at hu; rw [hu]; rfl) (by omega) (by omega) ?_
                        intro a1 c1 wq ho hg hn
                        have uq : Upd (fun b => (Value.slice ao K co).ownBlock = some b) wn wq := Upd.grown (Upd.refl _ wn) hg (fun b hb _ => hb)
                        have HMq := Lib.hid (rangeAt_kept HMn.out uq HD.out.sepo.2)
                        have Hap := Lib.hid (And.intro ho (And.intro hg hn))
                        have Huq := Lib.hid uq
                        clear ho hg hn uq
                        refine hKK.out _ _ HMq.out (fun hHeld => ?_)
                        clear hKK KK
                        (try simp only [List.getElem_toArray, List.getElem_cons_succ, List.getElem_cons_zero, Act.put, List.setIfInBounds_toArray, List.set_cons_zero, List.set_cons_succ])
                        refine wpAnyH_ready (rs := [7]) (by kernel_rfl) (by simp) ?_
                        refine AllReadyH.cons rfl (fun KK hKK => ?_) AllReadyH.nil
                        refine step_append_any rfl (.tmp 160) (.tmp 162) 28 rfl 30 i0 _ 41 128 Try.underlying28 hi0 hz0 hz1 hz2 rfl (by decide) (.slice aw K cw) K (rowsOf ws al) (.slice (some ⟨gn, 0, none⟩) 1 1) 1 (m.row am cm) rfl rfl ((HD.out.was.kept (Upd.below HB2.out (fun _ => False)) (fun _ _ => id)).kept Huq.out (fun b hb e => HD.out.old.parted HD.out.was (by decide) b e hb)) (HSn.out.kept Huq.out (fun b hb _ e => by have h1 := HD.out.old.lt e; have h2 := Hgnw.out; simp [Value.ownBlock] at hb; omega)) (nrow_one _ _ _ _ _ _) (by omega) (by omega) ?_
                        intro a2 c2 wz ho2 hg2 hn2
                        have HLp := Lib.hid (HD.out.push HB2.out Hap.out.1 Hap.out.2.1 Hap.out.2.2 (Below.refl _ _) ho2 hg2 hn2)
                        have HMz := Lib.hid (rangeAt_row HLp.out.row)
                        clear ho2 hg2 hn2 Hap
                        refine hKK.out _ _ HMz.out (fun hHeld => ?_)
                        clear hKK KK
                        (try simp only [List.getElem_toArray, List.getElem_cons_succ, List.getElem_cons_zero, Act.put, List.setIfInBounds_toArray, List.set_cons_zero, List.set_cons_succ])
                        refine wpAnyH_take (i := 8) (v := ?_) rfl (by kernel_rfl) (by kernel_rfl) (by kernel_rfl) (fun _ _ _ h => h) (Or.inl ⟨by rfl, ?_⟩) (by assumption) ?_
                        rotate_left
                        · intro w hSw; (try dsimp only at hSw); go_simp; (try with_reducible rfl)
                        (try simp only [List.getElem_toArray, List.getElem_cons_succ, List.getElem_cons_zero, Act.put, List.setIfInBounds_toArray, List.set_cons_zero, List.set_cons_succ])
                        refine wpAnyH_take (i := 9) (v := ?_) rfl (by kernel_rfl) (by kernel_rfl) (by kernel_rfl) (fun _ _ _ h => h) (Or.inl ⟨by rfl, ?_⟩) (by assumption) ?_
                        rotate_left
                        · intro w hSw; (try dsimp only at hSw); go_simp; (try with_reducible rfl)
                        (try simp only [List.getElem_toArray, List.getElem_cons_succ, List.getElem_cons_zero, Act.put, List.setIfInBounds_toArray, List.set_cons_zero, List.set_cons_succ])
                        refine wpAnyH_done (by kernel_rfl) ?_ _
                        refine NoPanic.normal ?_
                        clear hHeld
                        go_wp2_with fail
                        go_roundw
                        case rel => exact ⟨i + 1, xd, t, m, am, cm, a1, a2, c1, c2, K + 1, _, _, _, by omega, rfl, rfl, rfl, by go_num, by omega, HLp.out⟩
                        case measure => simp [intOf]; omega
                    · rw [if_pos (by rfl)]
                      refine wp_buildSlice_eq 28 1 #[(0, .tmp 161)] rfl #[(0, .agg (m.row am cm).toArray)] (by kernel_rfl) _ (build_node m am cm hn32.out _) ?_
                      have hBn := on_alloc (Below.refl wh.drew.heap.size wh.drew) (.cells (m.row am cm).toArray 30)
                      have hSn := Sl.made wh.drew 30 41 1 1 (m.row am cm).toArray (0, 0) (m.row am cm) (List.toList_toArray ..) (by rw [n41.out]) (by omega)
                      generalize wh.drew.alloc (.cells (m.row am cm).toArray 30) = wn at hBn hSn ⊢
                      obtain ⟨gn, hgn⟩ : ∃ g, g = wh.drew.heap.size := ⟨_, rfl⟩
                      have Hgnw := Lib.hid (show wh.drew.heap.size ≤ gn by rw [hgn]; exact (Nat.le_refl _))
                      rw [← hgn] at hSn ⊢
                      clear hgn
                      have HBn := Lib.hid hBn
                      have HSn := Lib.hid hSn
                      have HMn := Lib.hid (rangeAt_kept HM0.out (Upd.below hBn (fun _ => False)) id)
                      clear hBn hSn
                      refine hKK.out _ _ HMn.out (fun hHeld => ?_)
                      clear hKK KK
                      (try simp only [List.getElem_toArray, List.getElem_cons_succ, List.getElem_cons_zero, Act.put, List.setIfInBounds_toArray, List.set_cons_zero, List.set_cons_succ])
                      refine wpAnyH_ready (rs := [2]) (by kernel_rfl) (by simp) ?_
                      refine AllReadyH.cons rfl (fun KK hKK => ?_) AllReadyH.nil
                      rw [if_pos (by rfl)]
                      refine wp_buildSlice_eq 89 1 #[(0, .tmp 157)] rfl #[(0, .pointer (some ⟨t, 0, none⟩))] (by kernel_rfl) _ (build_ptrL t _) ?_
                      have hBp := on_alloc (Below.refl wn.heap.size wn) (.cells #[.pointer (some ⟨t, 0, none⟩)] 55)
                      have hSp := Sl.made wn 55 1 1 1 #[.pointer (some ⟨t, 0, none⟩)] (0, 0) [.pointer (some ⟨t, 0, none⟩)] rfl rfl (by omega)
                      generalize wn.alloc (.cells #[.pointer (some ⟨t, 0, none⟩)] 55) = wp at hBp hSp ⊢
                      obtain ⟨gp, hgp⟩ : ∃ g, g = wn.heap.size := ⟨_, rfl⟩
                      rw [← hgp] at hSp ⊢
                      clear hgp
                      have HBp := Lib.hid hBp
                      have HSp := Lib.hid hSp
                      have HMp := Lib.hid (rangeAt_kept HMn.out (Upd.below hBp (fun _ => False)) id)
                      clear hBp hSp
                      refine hKK.out _ _ HMp.out (fun hHeld => ?_)
                      clear hKK KK
                      (try simp only [List.getElem_toArray, List.getElem_cons_succ, List.getElem_cons_zero, Act.put, List.setIfInBounds_toArray, List.set_cons_zero, List.set_cons_succ])
                      have HB2 := Lib.hid (HBn.out.trans (HBp.out.mono HBn.out.size))
                      refine wpAnyH_ready (rs := [3]) (by kernel_rfl) (by simp) ?_
                      refine AllReadyH.cons rfl (fun KK hKK => ?_) AllReadyH.nil
                      refine step_append_any rfl (.tmp 156) (.tmp 158) 89 rfl 55 ip0 (.pointer none) 1 8 Try.underlying89 hip hip0 hip1 hip2 rfl (by decide) (.slice ao K co) K (ptrs ps) (.slice (some ⟨gp, 0, none⟩) 1 1) 1 [.pointer (some ⟨t, 0, none⟩)] rfl rfl (HD.out.old.kept (Upd.below HB2.out (fun _ => False)) (fun _ _ => id)) HSp.out (by intro u hu; simp at hu; rw [hu]; rfl) (by omega) (by omega) ?_
                      intro a1 c1 wq ho hg hn
                      have uq : Upd (fun b => (Value.slice ao K co).ownBlock = some b) wp wq := Upd.grown (Upd.refl _ wp) hg (fun b hb _ => hb)
                      have HMq := Lib.hid (rangeAt_kept HMp.out uq HD.out.sepo.2)
                      have Hap := Lib.hid (And.intro ho (And.intro hg hn))
                      have Huq := Lib.hid uq
                      clear ho hg hn uq
                      refine hKK.out _ _ HMq.out (fun hHeld => ?_)
                      clear hKK KK
                      (try simp only [List.getElem_toArray, List.getElem_cons_succ, List.getElem_cons_zero, Act.put, List.setIfInBounds_toArray, List.set_cons_zero, List.set_cons_succ])
                      refine wpAnyH_ready (rs := [7]) (by kernel_rfl) (by simp) ?_
                      refine AllReadyH.cons rfl (fun KK hKK => ?_) AllReadyH.nil
                      refine step_append_any rfl (.tmp 160) (.tmp 162) 28 rfl 30 i0 _ 41 128 Try.underlying28 hi0 hz0 hz1 hz2 rfl (by decide) (.slice aw K cw) K (rowsOf ws al) (.slice (some ⟨gn, 0, none⟩) 1 1) 1 (m.row am cm) rfl rfl ((HD.out.was.kept (Upd.below HB2.out (fun _ => False)) (fun _ _ => id)).kept Huq.out (fun b hb e => HD.out.old.parted HD.out.was (by decide) b e hb)) ((HSn.out.kept (Upd.below HBp.out (fun _ => False)) (fun _ _ _ => id)).kept Huq.out (fun b hb _ e => by have h1 := HD.out.old.lt e; have h2 := Hgnw.out; simp [Value.ownBlock] at hb; omega)) (nrow_one _ _ _ _ _ _) (by omega) (by omega) ?_
                      intro a2 c2 wz ho2 hg2 hn2
                      have HLp := Lib.hid (HD.out.push HB2.out Hap.out.1 Hap.out.2.1 Hap.out.2.2 (Below.refl _ _) ho2 hg2 hn2)
                      have HMz := Lib.hid (rangeAt_row HLp.out.row)
                      clear ho2 hg2 hn2 Hap
                      refine hKK.out _ _ HMz.out (fun hHeld => ?_)
                      clear hKK KK
                      (try simp only [List.getElem_toArray, List.getElem_cons_succ, List.getElem_cons_zero, Act.put, List.setIfInBounds_toArray, List.set_cons_zero, List.set_cons_succ])
                      refine wpAnyH_take (i := 8) (v := ?_) rfl (by kernel_rfl) (by kernel_rfl) (by kernel_rfl) (fun _ _ _ h => h) (Or.inl ⟨by rfl, ?_⟩) (by assumption) ?_
                      rotate_left
                      · intro w hSw; (try dsimp only at hSw); go_simp; (try with_reducible rfl)
                      (try simp only [List.getElem_toArray, List.getElem_cons_succ, List.getElem_cons_zero, Act.put, List.setIfInBounds_toArray, List.set_cons_zero, List.set_cons_succ])
                      refine wpAnyH_take (i := 9) (v := ?_) rfl (by kernel_rfl) (by kernel_rfl) (by kernel_rfl) (fun _ _ _ h => h) (Or.inl ⟨by rfl, ?_⟩) (by assumption) ?_
                      rotate_left
                      · intro w hSw; (try dsimp only at hSw); go_simp; (try with_reducible rfl)
                      (try simp only [List.getElem_toArray, List.getElem_cons_succ, List.getElem_cons_zero, Act.put, List.setIfInBounds_toArray, List.set_cons_zero, List.set_cons_succ])
                      refine wpAnyH_done (by kernel_rfl) ?_ _
                      refine NoPanic.normal ?_
                      clear hHeld
                      go_wp2_with fail
                      go_roundw
                      case rel => exact ⟨i + 1, xd, t, m, am, cm, a1, a2, c1, c2, K + 1, _, _, _, by omega, rfl, rfl, rfl, by go_num, by omega, HLp.out⟩
                      case measure => simp [intOf]; omega
                · have e249 : ((rm : Int) == 249) = false := beq_f (by omega)
                  go_wp2_with fail
                  go_roundw
                  case rel => exact ⟨i + 1, xd, t, m, am, cm, ao, aw, co, cw, K, ps, ws, al, by omega, rfl, rfl, rfl, by go_num, by omega, HL.out⟩
                  case measure => simp [intOf]; omega
            · as_aux_lemma =>
                have Hu := Lib.hid hu
                clear hu
                obtain ⟨y, hy⟩ : ∃ y, y = setRes m q v noMk := ⟨_, rfl⟩
                have hgd := set_good HLa.out.ris HLa.out.kinded Hkv.out h0 hsk hwr
                rw [← hy] at hgd
                have Hyr := Lib.hid hgd.1
                have Hgood := Lib.hid (show y.ris ∧ y.kinded ∧ y.parts ≤ 1 + 401 * (i + 1) from ⟨hgd.2.1, hgd.2.2.1, by have h1 := HLa.out.parts; have h2 := hgd.2.2.2; omega⟩)
                have Hgd := Lib.hid (show y.parts ≤ m.parts + 401 from by have h2 := hgd.2.2.2; omega)
                have hrp := Href.out wf Hndf.out
                rw [h0, ← hy] at hrp
                have Hrp := Lib.hid hrp
                clear hrp hy hgd
                clear Href h0 hsk hwr Hndf
                go_wp2_with (first | (refine wpList_load_midg (by rfl) 30 (.tmp 10) rfl M 0 rfl (m.row am cm) _ (rangeAt_row HMf.out) Try.underlying30 rfl (by rw [mm41.out]; kernel_rfl) ?_) | (refine wpList_load_midg (by rfl) 24 (.tmp 18) rfl V 0 rfl v.cells _ (rangeAt_row HVf.out) Try.underlying24 rfl (by rw [hv35.out]; kernel_rfl) ?_; rw [← HVA.out]) | (refine wpList_build_eq (by rfl) 27 #[] rfl #[] (by kernel_rfl) (.agg MA) (HbM.out _) ?_))
                refine Hrp.out.mono ?_
                rintro e13 wg ⟨ay, cy, rfl, hny, hbg⟩
                have HMg := Lib.hid ((hbg.block M (lt_heap HMf.out)).trans HMf.out)
                have HVg := Lib.hid ((hbg.block V (lt_heap HVf.out)).trans HVf.out)
                have HYg := Lib.hid ((hbg.block Y (lt_heap HYf.out)).trans HYf.out)
                have Hag := Lib.hid (Haf.out.trans (Upd.below hbg (fun b => b = X)))
                have HTg := Lib.hid ((hbg.block X (lt_heap HTf.out)).trans HTf.out)
                have hfg : wf.heap.size ≤ wg.heap.size := hbg.size
                have Hyn := Lib.hid hny
                have Hywf := Lib.hid hny.vwf
                have Hbg := Lib.hid hbg
                obtain ⟨E, hE⟩ : ∃ E : Array Value, E = (y.row ay cy).toArray := ⟨_, rfl⟩
                have Es := Lib.hid (show E.size = 41 by rw [hE, List.size_toArray]; exact row_len hny.vwf)
                have Eo := Lib.hid (show E.all (·.oneCell') = true by rw [hE]; exact all_one (nrow_one _ _ _ _ _ _))
                have HE := Lib.hid hE
                rw [← hE]
                clear hE
                go_wp2_with (refine wpList_store_rowg rfl 30 (.tmp 21) (.tmp 137) rfl Y E rfl rfl 30 Z HYg.out (by rw [Es.out]; kernel_rfl) (by rw [Es.out, hZs.out]) Eo.out ?_)
                intro wh hrh huh
                rw [HE.out] at hrh
                have Hyrow := Lib.hid hrh
                have hUh : Upd (fun b => b = X) wa wh := Hag.out.then huh (fun b hb e => by have e' : b = Y := e; omega)
                have HLh := Lib.hid (HLa.out.keep Hxd.out hUh (fun b hb => .inl hb) (huh.at_ HTg.out (by omega)) (huh.at_ HMg.out hMY))
                have Huh := Lib.hid huh
                have hgh : wg.heap.size ≤ wh.heap.size := huh.size
                clear hrh huh hUh HE
                have HO := Lib.hid (show OldAt wh (GB wh X M (.slice ao K co) (.slice aw K cw)) u y ay from ⟨⟨_, TreeAt.mono (F := (fun b => GB wa X M (.slice ao K co) (.slice aw K cw) b ∨ wd.heap.size ≤ b)) (fun b hb hl => (by rcases hb with hb | hb; (exact GB.more (show wa.heap.size ≤ wh.heap.size by omega) hb); (exact HLa.out.fresh (show wa.heap.size ≤ b by have hb' : wd.heap.size ≤ b := hb; omega) hl))) _ _ _ (TreeAt.kept Huh.out (fun b hb e => by have e' : b = Y := e; rcases hb with hb | hb; (have := hb.1; omega); (have hb' : wd.heap.size ≤ b := hb; omega)) _ _ _ ((show TreeAt wf _ _ u y by rw [Hyr.out]; exact TreeAt.renamed Hu.out ⟨#[]⟩).below Hbg.out))⟩, ⟨_, (Hyn.out.kept Huh.out (fun b hb e => by have e' : b = Y := e; have hb' : wf.heap.size ≤ b := hb; omega)).mono (fun b hb hl => HLa.out.fresh (by have hb' : wf.heap.size ≤ b := hb; omega) hl)⟩, by have h1 := HLa.out.parts; have h2 := Hgd.out; omega⟩)
                clear Hrp hny hbg Hu Hyn Huh Hbg Es Eo
                have HSy := Lib.hid (show wh.drew.rangeAt Y 0 (y.row ay cy) from rangeAt_row Hyrow.out)
                have ym41 := Lib.hid (row_len (n := m) (a := am) (c := cm) Hmwf.out)
                have yy41 := Lib.hid (row_len (n := y) (a := ay) (c := cy) Hywf.out)
                have infy : (Try.prog.info? 30).map (·.size) = some (y.row ay cy).length := by rw [yy41.out]; kernel_rfl
                have yys := Lib.hid (show (y.row ay cy).toArray.size = 41 by rw [List.size_toArray]; exact yy41.out)
                have hrowd : wh.drew.heap[M]? = some (.cells (m.row am cm).toArray 30 (0, 0)) := HLh.out.row
                have Hthm := Lib.hid (show wh.drew.there M 0 41 from there_rowR hrowd 0 41 (by rw [List.size_toArray, ym41.out]; omega))
                have hse := heap_setCells8 wh.drew M (m.row am cm) (y.row ay cy) hrowd (by rw [ym41.out, yy41.out])
                have hsu := upd_setCells wh.drew M 0 (y.row ay cy)
                obtain ⟨wi, hwi⟩ : ∃ wi, wi = wh.drew.setCells M 0 (y.row ay cy).toArray.toList := ⟨_, rfl⟩
                rw [show wh.drew.setCells M 0 (y.row ay cy) = wi from hwi.symm] at hse hsu
                have Hwi := Lib.hid hwi
                have HSi := Lib.hid (show wi.rangeAt Y 0 (y.row ay cy) from rangeAt_kept HSy.out hsu (fun e => hMY e.symm))
                have HL := Lib.hid (LSt.newm (HLh.out.below (on_drew (Below.refl _ _))) hsu hse (HO.out.keep ((Upd.refl (fun _ => False) wh).drew) (fun _ _ => id) (fun b hb => GB.more (Nat.le_refl _) hb)) Hgood.out.1 Hgood.out.2.1 Hgood.out.2.2)
                clear hrowd hse hsu hwi HLh HO
                go_wp2_with fail
                refine wp_region_noPanic ?_
                refine wp_region_held_drew (S := (fun w' => w'.rangeAt Y 0 (y.row ay cy))) (by kernel_rfl) HSy.out (fun hHeld => ?_)
                refine wpAnyH_take (i := 0) (v := ?_) rfl (by kernel_rfl) (by kernel_rfl) (by kernel_rfl) (fun _ _ _ h => h) (Or.inl ⟨by rfl, ?_⟩) (by assumption) ?_
                rotate_left
                · intro w hSw; (try dsimp only at hSw); go_simp; (try with_reducible rfl)
                (try simp only [List.getElem_toArray, List.getElem_cons_succ, List.getElem_cons_zero, Act.put, List.setIfInBounds_toArray, List.set_cons_zero, List.set_cons_succ])
                refine wpAnyH_take (i := 1) (v := _) rfl (by kernel_rfl) (by kernel_rfl) (by kernel_rfl) (fun _ _ _ h => h) (yieldsIf_load_mid (by rfl) 30 (.tmp 21) rfl Y 0 rfl (y.row ay cy) _ (fun w hSw => hSw) und41 rfl infy) (by assumption) ?_
                (try simp only [List.getElem_toArray, List.getElem_cons_succ, List.getElem_cons_zero, Act.put, List.setIfInBounds_toArray, List.set_cons_zero, List.set_cons_succ])
                refine wpAnyH_take (i := 2) (v := ?_) rfl (by kernel_rfl) (by kernel_rfl) (by kernel_rfl) (fun _ _ _ h => h) (Or.inl ⟨by rfl, ?_⟩) (by assumption) ?_
                rotate_left
                · intro w hSw; (try dsimp only at hSw); go_simp; (try with_reducible rfl)
                (try simp only [List.getElem_toArray, List.getElem_cons_succ, List.getElem_cons_zero, Act.put, List.setIfInBounds_toArray, List.set_cons_zero, List.set_cons_succ])
                refine wpAnyH_ready (rs := [3]) (by kernel_rfl) (by simp) ?_
                refine AllReadyH.cons rfl (fun KK hKK => ?_) AllReadyH.nil
                rw [if_pos (by rfl)]
                refine wp_store_mid 30 (.tmp 10) (.tmp 152) rfl M 0 (y.row ay cy).toArray rfl rfl (by rw [yys.out]; exact Hthm.out) (by rw [yys.out]; kernel_rfl) (all_one (nrow_one _ _ _ _ _ _)) ?_
                rw [← Hwi.out]
                refine hKK.out _ _ HSi.out (fun hHeld => ?_)
                clear hKK KK
                (try simp only [List.getElem_toArray, List.getElem_cons_succ, List.getElem_cons_zero, Act.put, List.setIfInBounds_toArray, List.set_cons_zero, List.set_cons_succ])
                refine wpAnyH_done (by kernel_rfl) ?_ _
                refine NoPanic.normal ?_
                clear hHeld HSy HSi Hwi Hthm
                obtain ⟨rm, hrm⟩ : ∃ r, r = i % 250 := ⟨_, rfl⟩
                have em : (i : Int).tmod 250 = (rm : Int) := by rw [hrm]; rfl
                clear hrm
                by_cases h249 : rm = 249
                · as_aux_lemma =>
                    subst h249
                    go_wp2_with fail
                    clear em
                    have HD := Lib.hid (HL.out.below (on_drew (Below.refl wi.heap.size wi)))
                    have HM0 := Lib.hid (rangeAt_row HD.out.row)
                    obtain ⟨dnn, hnn⟩ := HD.out.now.node
                    have hn32 := Lib.hid hnn.vwf.1
                    have n41 := Lib.hid (row_len (n := y) (a := ay) (c := cy) hnn.vwf)
                    have infn : (Try.prog.info? 30).map (·.size) = some (y.row ay cy).length := by rw [n41.out]; kernel_rfl
                    clear hnn
                    refine wp_region_noPanic ?_
                    refine wp_region_held_drew (S := (fun w' => w'.rangeAt M 0 (y.row ay cy))) (by kernel_rfl) HM0.out (fun hHeld => ?_)
                    refine wpAnyH_take (i := 0) (v := ?_) rfl (by kernel_rfl) (by kernel_rfl) (by kernel_rfl) (fun _ _ _ h => h) (Or.inl ⟨by rfl, ?_⟩) (by assumption) ?_
                    rotate_left
                    · intro w hSw; (try dsimp only at hSw); go_simp; (try with_reducible rfl)
                    (try simp only [List.getElem_toArray, List.getElem_cons_succ, List.getElem_cons_zero, Act.put, List.setIfInBounds_toArray, List.set_cons_zero, List.set_cons_succ])
                    refine wpAnyH_take (i := 1) (v := ?_) rfl (by kernel_rfl) (by kernel_rfl) (by kernel_rfl) (fun _ _ _ h => h) (Or.inl ⟨by rfl, ?_⟩) (by assumption) ?_
                    rotate_left
                    · intro w hSw; (try dsimp only at hSw); go_simp; (try with_reducible rfl)
                    (try simp only [List.getElem_toArray, List.getElem_cons_succ, List.getElem_cons_zero, Act.put, List.setIfInBounds_toArray, List.set_cons_zero, List.set_cons_succ])
                    refine wpAnyH_take (i := 4) (v := ?_) rfl (by kernel_rfl) (by kernel_rfl) (by kernel_rfl) (fun _ _ _ h => h) (Or.inl ⟨by rfl, ?_⟩) (by assumption) ?_
                    rotate_left
                    · intro w hSw; (try dsimp only at hSw); go_simp; (try with_reducible rfl)
                    (try simp only [List.getElem_toArray, List.getElem_cons_succ, List.getElem_cons_zero, Act.put, List.setIfInBounds_toArray, List.set_cons_zero, List.set_cons_succ])
                    refine wpAnyH_take (i := 5) (v := _) rfl (by kernel_rfl) (by kernel_rfl) (by kernel_rfl) (fun _ _ _ h => h) (yieldsIf_load_mid (by rfl) 30 (.tmp 10) rfl M 0 rfl (y.row ay cy) _ (fun w hSw => hSw) und41 rfl infn) (by assumption) ?_
                    (try simp only [List.getElem_toArray, List.getElem_cons_succ, List.getElem_cons_zero, Act.put, List.setIfInBounds_toArray, List.set_cons_zero, List.set_cons_succ])
                    refine wpAnyH_ready (rs := [2, 6]) (by kernel_rfl) (by simp) ?_
                    refine AllReadyH.cons rfl (fun KK hKK => ?_) (AllReadyH.cons rfl (fun KK hKK => ?_) AllReadyH.nil)
                    · rw [if_pos (by rfl)]
                      refine wp_buildSlice_eq 89 1 #[(0, .tmp 157)] rfl #[(0, .pointer (some ⟨u, 0, none⟩))] (by kernel_rfl) _ (build_ptrL u _) ?_
                      have hBp := on_alloc (Below.refl wi.drew.heap.size wi.drew) (.cells #[.pointer (some ⟨u, 0, none⟩)] 55)
                      have hSp := Sl.made wi.drew 55 1 1 1 #[.pointer (some ⟨u, 0, none⟩)] (0, 0) [.pointer (some ⟨u, 0, none⟩)] rfl rfl (by omega)
                      generalize wi.drew.alloc (.cells #[.pointer (some ⟨u, 0, none⟩)] 55) = wp at hBp hSp ⊢
                      obtain ⟨gp, hgp⟩ : ∃ g, g = wi.drew.heap.size := ⟨_, rfl⟩
                      rw [← hgp] at hSp ⊢
                      clear hgp
                      have HBp := Lib.hid hBp
                      have HSp := Lib.hid hSp
                      have HMp := Lib.hid (rangeAt_kept HM0.out (Upd.below hBp (fun _ => False)) id)
                      clear hBp hSp
                      refine hKK.out _ _ HMp.out (fun hHeld => ?_)
                      clear hKK KK
                      (try simp only [List.getElem_toArray, List.getElem_cons_succ, List.getElem_cons_zero, Act.put, List.setIfInBounds_toArray, List.set_cons_zero, List.set_cons_succ])
                      refine wpAnyH_ready (rs := [3, 6]) (by kernel_rfl) (by simp) ?_
                      refine AllReadyH.cons rfl (fun KK hKK => ?_) (AllReadyH.cons rfl (fun KK hKK => ?_) AllReadyH.nil)
                      · refine step_append_any rfl (.tmp 156) (.tmp 158) 89 rfl 55 ip0 (.pointer none) 1 8 Try.underlying89 hip hip0 hip1 hip2 rfl (by decide) (.slice ao K co) K (ptrs ps) (.slice (some ⟨gp, 0, none⟩) 1 1) 1 [.pointer (some ⟨u, 0, none⟩)] rfl rfl (HD.out.old.kept (Upd.below HBp.out (fun _ => False)) (fun _ _ => id)) HSp.out (by intro u hu; simp at hu; rw [hu]; rfl) (by omega) (by omega) ?_
                        intro a1 c1 wq ho hg hn
                        have uq : Upd (fun b => (Value.slice ao K co).ownBlock = some b) wp wq := Upd.grown (Upd.refl _ wp) hg (fun b hb _ => hb)
                        have HMq := Lib.hid (rangeAt_kept HMp.out uq HD.out.sepo.2)
                        have Hap := Lib.hid (And.intro ho (And.intro hg hn))
                        have Huq := Lib.hid uq
                        clear ho hg hn uq
                        refine hKK.out _ _ HMq.out (fun hHeld => ?_)
                        clear hKK KK
                        (try simp only [List.getElem_toArray, List.getElem_cons_succ, List.getElem_cons_zero, Act.put, List.setIfInBounds_toArray, List.set_cons_zero, List.set_cons_succ])
                        refine wpAnyH_ready (rs := [6]) (by kernel_rfl) (by simp) ?_
                        refine AllReadyH.cons rfl (fun KK hKK => ?_) AllReadyH.nil
                        rw [if_pos (by rfl)]
                        refine wp_buildSlice_eq 28 1 #[(0, .tmp 161)] rfl #[(0, .agg (y.row ay cy).toArray)] (by kernel_rfl) _ (build_node y ay cy hn32.out _) ?_
                        have hBn := on_alloc (Below.refl wq.heap.size wq) (.cells (y.row ay cy).toArray 30)
                        have hSn := Sl.made wq 30 41 1 1 (y.row ay cy).toArray (0, 0) (y.row ay cy) (List.toList_toArray ..) (by rw [n41.out]) (by omega)
                        generalize wq.alloc (.cells (y.row ay cy).toArray 30) = wn at hBn hSn ⊢
                        obtain ⟨gn, hgn⟩ : ∃ g, g = wq.heap.size := ⟨_, rfl⟩
                        have Hgnw := Lib.hid (show wi.drew.heap.size ≤ gn by rw [hgn]; exact (Nat.le_trans HBp.out.size Huq.out.size))
                        rw [← hgn] at hSn ⊢
                        clear hgn
                        have HBn := Lib.hid hBn
                        have HSn := Lib.hid hSn
                        have HMn := Lib.hid (rangeAt_kept HMq.out (Upd.below hBn (fun _ => False)) id)
                        clear hBn hSn
                        refine hKK.out _ _ HMn.out (fun hHeld => ?_)
                        clear hKK KK
                        (try simp only [List.getElem_toArray, List.getElem_cons_succ, List.getElem_cons_zero, Act.put, List.setIfInBounds_toArray, List.set_cons_zero, List.set_cons_succ])
                        refine wpAnyH_ready (rs := [7]) (by kernel_rfl) (by simp) ?_
                        refine AllReadyH.cons rfl (fun KK hKK => ?_) AllReadyH.nil
                        refine step_append_any rfl (.tmp 160) (.tmp 162) 28 rfl 30 i0 _ 41 128 Try.underlying28 hi0 hz0 hz1 hz2 rfl (by decide) (.slice aw K cw) K (rowsOf ws al) (.slice (some ⟨gn, 0, none⟩) 1 1) 1 (y.row ay cy) rfl rfl (((HD.out.was.kept (Upd.below HBp.out (fun _ => False)) (fun _ _ => id)).kept Huq.out (fun b hb e => HD.out.old.parted HD.out.was (by decide) b e hb)).kept (Upd.below HBn.out (fun _ => False)) (fun _ _ => id)) HSn.out (nrow_one _ _ _ _ _ _) (by omega) (by omega) ?_
                        intro a2 c2 wz ho2 hg2 hn2
                        have HLp := Lib.hid (HD.out.push HBp.out Hap.out.1 Hap.out.2.1 Hap.out.2.2 HBn.out ho2 hg2 hn2)
                        have HMz := Lib.hid (rangeAt_row HLp.out.row)
                        clear ho2 hg2 hn2 Hap
                        refine hKK.out _ _ HMz.out (fun hHeld => ?_)
                        clear hKK KK
                        (try simp only [List.getElem_toArray, List.getElem_cons_succ, List.getElem_cons_zero, Act.put, List.setIfInBounds_toArray, List.set_cons_zero, List.set_cons_succ])
                        refine wpAnyH_take (i := 8) (v := ?_) rfl (by kernel_rfl) (by kernel_rfl) (by kernel_rfl) (fun _ _ _ h => h) (Or.inl ⟨by rfl, ?_⟩) (by assumption) ?_
                        rotate_left
                        · intro w hSw; (try dsimp only at hSw); go_simp; (try with_reducible rfl)
                        (try simp only [List.getElem_toArray, List.getElem_cons_succ, List.getElem_cons_zero, Act.put, List.setIfInBounds_toArray, List.set_cons_zero, List.set_cons_succ])
                        refine wpAnyH_take (i := 9) (v := ?_) rfl (by kernel_rfl) (by kernel_rfl) (by kernel_rfl) (fun _ _ _ h => h) (Or.inl ⟨by rfl, ?_⟩) (by assumption) ?_
                        rotate_left
                        · intro w hSw; (try dsimp only at hSw); go_simp; (try with_reducible rfl)
                        (try simp only [List.getElem_toArray, List.getElem_cons_succ, List.getElem_cons_zero, Act.put, List.setIfInBounds_toArray, List.set_cons_zero, List.set_cons_succ])
                        refine wpAnyH_done (by kernel_rfl) ?_ _
                        refine NoPanic.normal ?_
                        clear hHeld
                        go_wp2_with fail
                        go_roundw
                        case rel => exact ⟨i + 1, xd, u, y, ay, cy, a1, a2, c1, c2, K + 1, _, _, _, by omega, rfl, rfl, rfl, by go_num, by omega, HLp.out⟩
                        case measure => simp [intOf]; omega
                      · rw [if_pos (by rfl)]
                        refine wp_buildSlice_eq 28 1 #[(0, .tmp 161)] rfl #[(0, .agg (y.row ay cy).toArray)] (by kernel_rfl) _ (build_node y ay cy hn32.out _) ?_
                        have hBn := on_alloc (Below.refl wp.heap.size wp) (.cells (y.row ay cy).toArray 30)
                        have hSn := Sl.made wp 30 41 1 1 (y.row ay cy).toArray (0, 0) (y.row ay cy) (List.toList_toArray ..) (by rw [n41.out]) (by omega)
                        generalize wp.alloc (.cells (y.row ay cy).toArray 30) = wn at hBn hSn ⊢
                        obtain ⟨gn, hgn⟩ : ∃ g, g = wp.heap.size := ⟨_, rfl⟩
                        have Hgnw := Lib.hid (show wi.drew.heap.size ≤ gn by rw [hgn]; exact HBp.out.size)
                        rw [← hgn] at hSn ⊢
                        clear hgn
                        have HBn := Lib.hid hBn
                        have HSn := Lib.hid hSn
                        have HMn := Lib.hid (rangeAt_kept HMp.out (Upd.below hBn (fun _ => False)) id)
                        clear hBn hSn
                        refine hKK.out _ _ HMn.out (fun hHeld => ?_)
                        clear hKK KK
                        (try simp only [List.getElem_toArray, List.getElem_cons_succ, List.getElem_cons_zero, Act.put, List.setIfInBounds_toArray, List.set_cons_zero, List.set_cons_succ])
                        have HB2 := Lib.hid (HBp.out.trans (HBn.out.mono HBp.out.size))
                        refine wpAnyH_ready (rs := [3]) (by kernel_rfl) (by simp) ?_
                        refine AllReadyH.cons rfl (fun KK hKK => ?_) AllReadyH.nil
                        refine step_append_any rfl (.tmp 156) (.tmp 158) 89 rfl 55 ip0 (.pointer none) 1 8 Try.underlying89 hip hip0 hip1 hip2 rfl (by decide) (.slice ao K co) K (ptrs ps) (.slice (some ⟨gp, 0, none⟩) 1 1) 1 [.pointer (some ⟨u, 0, none⟩)] rfl rfl (HD.out.old.kept (Upd.below HB2.out (fun _ => False)) (fun _ _ => id)) (HSp.out.kept (Upd.below HBn.out (fun _ => False)) (fun _ _ _ => id)) (by intro u hu; simp at hu; rw [hu]; rfl) (by omega) (by omega) ?_
                        intro a1 c1 wq ho hg hn
                        have uq : Upd (fun b => (Value.slice ao K co).ownBlock = some b) wn wq := Upd.grown (Upd.refl _ wn) hg (fun b hb _ => hb)
                        have HMq := Lib.hid (rangeAt_kept HMn.out uq HD.out.sepo.2)
                        have Hap := Lib.hid (And.intro ho (And.intro hg hn))
                        have Huq := Lib.hid uq
                        clear ho hg hn uq
                        refine hKK.out _ _ HMq.out (fun hHeld => ?_)
                        clear hKK KK
                        (try simp only [List.getElem_toArray, List.getElem_cons_succ, List.getElem_cons_zero, Act.put, List.setIfInBounds_toArray, List.set_cons_zero, List.set_cons_succ])
                        refine wpAnyH_ready (rs := [7]) (by kernel_rfl) (by simp) ?_
                        refine AllReadyH.cons rfl (fun KK hKK => ?_) AllReadyH.nil
                        refine step_append_any rfl (.tmp 160) (.tmp 162) 28 rfl 30 i0 _ 41 128 Try.underlying28 hi0 hz0 hz1 hz2 rfl (by decide) (.slice aw K cw) K (rowsOf ws al) (.slice (some ⟨gn, 0, none⟩) 1 1) 1 (y.row ay cy) rfl rfl ((HD.out.was.kept (Upd.below HB2.out (fun _ => False)) (fun _ _ => id)).kept Huq.out (fun b hb e => HD.out.old.parted HD.out.was (by decide) b e hb)) (HSn.out.kept Huq.out (fun b hb _ e => by have h1 := HD.out.old.lt e; have h2 := Hgnw.out; simp [Value.ownBlock] at hb; omega)) (nrow_one _ _ _ _ _ _) (by omega) (by omega) ?_
                        intro a2 c2 wz ho2 hg2 hn2
                        have HLp := Lib.hid (HD.out.push HB2.out Hap.out.1 Hap.out.2.1 Hap.out.2.2 (Below.refl _ _) ho2 hg2 hn2)
                        have HMz := Lib.hid (rangeAt_row HLp.out.row)
                        clear ho2 hg2 hn2 Hap
                        refine hKK.out _ _ HMz.out (fun hHeld => ?_)
                        clear hKK KK
                        (try simp only [List.getElem_toArray, List.getElem_cons_succ, List.getElem_cons_zero, Act.put, List.setIfInBounds_toArray, List.set_cons_zero, List.set_cons_succ])
                        refine wpAnyH_take (i := 8) (v := ?_) rfl (by kernel_rfl) (by kernel_rfl) (by kernel_rfl) (fun _ _ _ h => h) (Or.inl ⟨by rfl, ?_⟩) (by assumption) ?_
                        rotate_left
                        · intro w hSw; (try dsimp only at hSw); go_simp; (try with_reducible rfl)
                        (try simp only [List.getElem_toArray, List.getElem_cons_succ, List.getElem_cons_zero, Act.put, List.setIfInBounds_toArray, List.set_cons_zero, List.set_cons_succ])
                        refine wpAnyH_take (i := 9) (v := ?_) rfl (by kernel_rfl) (by kernel_rfl) (by kernel_rfl) (fun _ _ _ h => h) (Or.inl ⟨by rfl, ?_⟩) (by assumption) ?_
                        rotate_left
                        · intro w hSw; (try dsimp only at hSw); go_simp; (try with_reducible rfl)
                        (try simp only [List.getElem_toArray, List.getElem_cons_succ, List.getElem_cons_zero, Act.put, List.setIfInBounds_toArray, List.set_cons_zero, List.set_cons_succ])
                        refine wpAnyH_done (by kernel_rfl) ?_ _
                        refine NoPanic.normal ?_
                        clear hHeld
                        go_wp2_with fail
                        go_roundw
                        case rel => exact ⟨i + 1, xd, u, y, ay, cy, a1, a2, c1, c2, K + 1, _, _, _, by omega, rfl, rfl, rfl, by go_num, by omega, HLp.out⟩
                        case measure => simp [intOf]; omega
                    · rw [if_pos (by rfl)]
                      refine wp_buildSlice_eq 28 1 #[(0, .tmp 161)] rfl #[(0, .agg (y.row ay cy).toArray)] (by kernel_rfl) _ (build_node y ay cy hn32.out _) ?_
                      have hBn := on_alloc (Below.refl wi.drew.heap.size wi.drew) (.cells (y.row ay cy).toArray 30)
                      have hSn := Sl.made wi.drew 30 41 1 1 (y.row ay cy).toArray (0, 0) (y.row ay cy) (List.toList_toArray ..) (by rw [n41.out]) (by omega)
                      generalize wi.drew.alloc (.cells (y.row ay cy).toArray 30) = wn at hBn hSn ⊢
                      obtain ⟨gn, hgn⟩ : ∃ g, g = wi.drew.heap.size := ⟨_, rfl⟩
                      have Hgnw := Lib.hid (show wi.drew.heap.size ≤ gn by rw [hgn]; exact (Nat.le_refl _))
                      rw [← hgn] at hSn ⊢
                      clear hgn
                      have HBn := Lib.hid hBn
                      have HSn := Lib.hid hSn
                      have HMn := Lib.hid (rangeAt_kept HM0.out (Upd.below hBn (fun _ => False)) id)
                      clear hBn hSn
                      refine hKK.out _ _ HMn.out (fun hHeld => ?_)
                      clear hKK KK
                      (try simp only [List.getElem_toArray, List.getElem_cons_succ, List.getElem_cons_zero, Act.put, List.setIfInBounds_toArray, List.set_cons_zero, List.set_cons_succ])
                      refine wpAnyH_ready (rs := [2]) (by kernel_rfl) (by simp) ?_
                      refine AllReadyH.cons rfl (fun KK hKK => ?_) AllReadyH.nil
                      rw [if_pos (by rfl)]
                      refine wp_buildSlice_eq 89 1 #[(0, .tmp 157)] rfl #[(0, .pointer (some ⟨u, 0, none⟩))] (by kernel_rfl) _ (build_ptrL u _) ?_
                      have hBp := on_alloc (Below.refl wn.heap.size wn) (.cells #[.pointer (some ⟨u, 0, none⟩)] 55)
                      have hSp := Sl.made wn 55 1 1 1 #[.pointer (some ⟨u, 0, none⟩)] (0, 0) [.pointer (some ⟨u, 0, none⟩)] rfl rfl (by omega)
                      generalize wn.alloc (.cells #[.pointer (some ⟨u, 0, none⟩)] 55) = wp at hBp hSp ⊢
                      obtain ⟨gp, hgp⟩ : ∃ g, g = wn.heap.size := ⟨_, rfl⟩
                      rw [← hgp] at hSp ⊢
                      clear hgp
                      have HBp := Lib.hid hBp
                      have HSp := Lib.hid hSp
                      have HMp := Lib.hid (rangeAt_kept HMn.out (Upd.below hBp (fun _ => False)) id)
                      clear hBp hSp
                      refine hKK.out _ _ HMp.out (fun hHeld => ?_)
                      clear hKK KK
                      (try simp only [List.getElem_toArray, List.getElem_cons_succ, List.getElem_cons_zero, Act.put, List.setIfInBounds_toArray, List.set_cons_zero, List.set_cons_succ])
                      have HB2 := Lib.hid (HBn.out.trans (HBp.out.mono HBn.out.size))
                      refine wpAnyH_ready (rs := [3]) (by kernel_rfl) (by simp) ?_
                      refine AllReadyH.cons rfl (fun KK hKK => ?_) AllReadyH.nil
                      refine step_append_any rfl (.tmp 156) (.tmp 158) 89 rfl 55 ip0 (.pointer none) 1 8 Try.underlying89 hip hip0 hip1 hip2 rfl (by decide) (.slice ao K co) K (ptrs ps) (.slice (some ⟨gp, 0, none⟩) 1 1) 1 [.pointer (some ⟨u, 0, none⟩)] rfl rfl (HD.out.old.kept (Upd.below HB2.out (fun _ => False)) (fun _ _ => id)) HSp.out (by intro u hu; simp at hu; rw [hu]; rfl) (by omega) (by omega) ?_
                      intro a1 c1 wq ho hg hn
                      have uq : Upd (fun b => (Value.slice ao K co).ownBlock = some b) wp wq := Upd.grown (Upd.refl _ wp) hg (fun b hb _ => hb)
                      have HMq := Lib.hid (rangeAt_kept HMp.out uq HD.out.sepo.2)
                      have Hap := Lib.hid (And.intro ho (And.intro hg hn))
                      have Huq := Lib.hid uq
                      clear ho hg hn uq
                      refine hKK.out _ _ HMq.out (fun hHeld => ?_)
                      clear hKK KK
                      (try simp only [List.getElem_toArray, List.getElem_cons_succ, List.getElem_cons_zero, Act.put, List.setIfInBounds_toArray, List.set_cons_zero, List.set_cons_succ])
                      refine wpAnyH_ready (rs := [7]) (by kernel_rfl) (by simp) ?_
                      refine AllReadyH.cons rfl (fun KK hKK => ?_) AllReadyH.nil
                      refine step_append_any rfl (.tmp 160) (.tmp 162) 28 rfl 30 i0 _ 41 128 Try.underlying28 hi0 hz0 hz1 hz2 rfl (by decide) (.slice aw K cw) K (rowsOf ws al) (.slice (some ⟨gn, 0, none⟩) 1 1) 1 (y.row ay cy) rfl rfl ((HD.out.was.kept (Upd.below HB2.out (fun _ => False)) (fun _ _ => id)).kept Huq.out (fun b hb e => HD.out.old.parted HD.out.was (by decide) b e hb)) ((HSn.out.kept (Upd.below HBp.out (fun _ => False)) (fun _ _ _ => id)).kept Huq.out (fun b hb _ e => by have h1 := HD.out.old.lt e; have h2 := Hgnw.out; simp [Value.ownBlock] at hb; omega)) (nrow_one _ _ _ _ _ _) (by omega) (by omega) ?_
                      intro a2 c2 wz ho2 hg2 hn2
                      have HLp := Lib.hid (HD.out.push HB2.out Hap.out.1 Hap.out.2.1 Hap.out.2.2 (Below.refl _ _) ho2 hg2 hn2)
                      have HMz := Lib.hid (rangeAt_row HLp.out.row)
                      clear ho2 hg2 hn2 Hap
                      refine hKK.out _ _ HMz.out (fun hHeld => ?_)
                      clear hKK KK
                      (try simp only [List.getElem_toArray, List.getElem_cons_succ, List.getElem_cons_zero, Act.put, List.setIfInBounds_toArray, List.set_cons_zero, List.set_cons_succ])
                      refine wpAnyH_take (i := 8) (v := ?_) rfl (by kernel_rfl) (by kernel_rfl) (by kernel_rfl) (fun _ _ _ h => h) (Or.inl ⟨by rfl, ?_⟩) (by assumption) ?_
                      rotate_left
                      · intro w hSw; (try dsimp only at hSw); go_simp; (try with_reducible rfl)
                      (try simp only [List.getElem_toArray, List.getElem_cons_succ, List.getElem_cons_zero, Act.put, List.setIfInBounds_toArray, List.set_cons_zero, List.set_cons_succ])
                      refine wpAnyH_take (i := 9) (v := ?_) rfl (by kernel_rfl) (by kernel_rfl) (by kernel_rfl) (fun _ _ _ h => h) (Or.inl ⟨by rfl, ?_⟩) (by assumption) ?_
                      rotate_left
                      · intro w hSw; (try dsimp only at hSw); go_simp; (try with_reducible rfl)
                      (try simp only [List.getElem_toArray, List.getElem_cons_succ, List.getElem_cons_zero, Act.put, List.setIfInBounds_toArray, List.set_cons_zero, List.set_cons_succ])
                      refine wpAnyH_done (by kernel_rfl) ?_ _
                      refine NoPanic.normal ?_
                      clear hHeld
                      go_wp2_with fail
                      go_roundw
                      case rel => exact ⟨i + 1, xd, u, y, ay, cy, a1, a2, c1, c2, K + 1, _, _, _, by omega, rfl, rfl, rfl, by go_num, by omega, HLp.out⟩
                      case measure => simp [intOf]; omega
                · have e249 : ((rm : Int) == 249) = false := beq_f (by omega)
                  go_wp2_with fail
                  go_roundw
                  case rel => exact ⟨i + 1, xd, u, y, ay, cy, ao, aw, co, cw, K, ps, ws, al, by omega, rfl, rfl, rfl, by go_num, by omega, HL.out⟩
                  case measure => simp [intOf]; omega
          · subst hsw2
            have Hnow := Lib.hid (HLa.out.now.keep (G := GB wa X M (.slice ao K co) (.slice aw K cw)) Had.out (fun b hb e => hb.2.1 e) (fun b hb => hb))
            obtain ⟨dt, htd⟩ := Hnow.out.tree
            obtain ⟨dn, hnd⟩ := Hnow.out.node
            have Htd := Lib.hid htd
            have Hnd := Lib.hid hnd
            have Hmwf := Lib.hid hnd.vwf
            have mm41 := Lib.hid (row_len (n := m) (a := am) (c := cm) hnd.vwf)
            have hmp : m.parts ≤ 601101 := by have := HLa.out.parts; omega
            have hmc : m.cnt ≤ 601101 := Nat.le_trans (cnt_le_parts m) hmp
            have hq9 : q.size ≤ 1000000000 := by omega
            have hMY : M ≠ Y := by omega
            clear htd hnd Hnow
            have href := fun (wf : World) (hn : NodeIn wf (fun b => b < wf.heap.size) dn m am) => refDrop_ok (fun b => b < wf.heap.size) dn wf m q am cm hn (fun b hb => hb) (by omega) HLa.out.kinded hq9 (Nat.le_trans (drop_parts m hq19) (by omega))
            have Href := Lib.hid href
            clear href
            by_cases hpe : dropErr m q = 0
            · as_aux_lemma =>
                have Hdrop := Lib.hid (drop_ok (GB wa X M (.slice ao K co) (.slice aw K cw)) dt wd t m q Htd.out HLa.out.ris (by omega) hq9 hpe)
                go_wp2_with fail
                refine Hdrop.out.mono ?_
                rintro e12 wf ⟨u, rfl, hu, hbf⟩
                have Hu := Lib.hid hu
                have HMf := Lib.hid ((hbf.block M (lt_heap HMd.out)).trans HMd.out)
                have HVf := Lib.hid ((hbf.block V (lt_heap HVd.out)).trans HVd.out)
                have HYf := Lib.hid ((hbf.block Y (lt_heap HYd.out)).trans HYd.out)
                have Haf := Lib.hid (Had.out.trans (Upd.below hbf (fun b => b = X)))
                have HTf := Lib.hid ((hbf.block X (lt_heap HTd.out)).trans HTd.out)
                have hdf : wd.heap.size ≤ wf.heap.size := hbf.size
                have Hndf := Lib.hid ((Hnd.out.below hbf).mono (G := fun b => b < wf.heap.size) (fun b _ hl => hl))
                clear hu hbf Hdrop Htd Hnd
                obtain ⟨y, hy⟩ : ∃ y, y = dropRes m q := ⟨_, rfl⟩
                have hgd := drop_good HLa.out.ris HLa.out.kinded hpe
                rw [← hy] at hgd
                have Hyr := Lib.hid hgd.1
                have Hgood := Lib.hid (show y.ris ∧ y.kinded ∧ y.parts ≤ 1 + 401 * (i + 1) from ⟨hgd.2.1, hgd.2.2.1, by have h1 := HLa.out.parts; have h2 := hgd.2.2.2; omega⟩)
                have Hgd := Lib.hid (show y.parts ≤ m.parts + 401 from by have h2 := hgd.2.2.2; omega)
                have hrp := Href.out wf Hndf.out
                rw [hpe, ← hy] at hrp
                have Hrp := Lib.hid hrp
                clear hrp hy hgd
                clear Href hpe Hndf
                go_wp2_with (refine wpList_load_midg (by rfl) 30 (.tmp 10) rfl M 0 rfl (m.row am cm) _ (rangeAt_row HMf.out) Try.underlying30 rfl (by rw [mm41.out]; kernel_rfl) ?_)
                refine Hrp.out.mono ?_
                rintro e13 wg ⟨ay, cy, rfl, hny, hbg⟩
                have HMg := Lib.hid ((hbg.block M (lt_heap HMf.out)).trans HMf.out)
                have HVg := Lib.hid ((hbg.block V (lt_heap HVf.out)).trans HVf.out)
                have HYg := Lib.hid ((hbg.block Y (lt_heap HYf.out)).trans HYf.out)
                have Hag := Lib.hid (Haf.out.trans (Upd.below hbg (fun b => b = X)))
                have HTg := Lib.hid ((hbg.block X (lt_heap HTf.out)).trans HTf.out)
                have hfg : wf.heap.size ≤ wg.heap.size := hbg.size
                have Hyn := Lib.hid hny
                have Hywf := Lib.hid hny.vwf
                have Hbg := Lib.hid hbg
                obtain ⟨E, hE⟩ : ∃ E : Array Value, E = (y.row ay cy).toArray := ⟨_, rfl⟩
                have Es := Lib.hid (show E.size = 41 by rw [hE, List.size_toArray]; exact row_len hny.vwf)
                have Eo := Lib.hid (show E.all (·.oneCell') = true by rw [hE]; exact all_one (nrow_one _ _ _ _ _ _))
                have HE := Lib.hid hE
                rw [← hE]
                clear hE
                go_wp2_with (refine wpList_store_rowg rfl 30 (.tmp 21) (.tmp 92) rfl Y E rfl rfl 30 Z HYg.out (by rw [Es.out]; kernel_rfl) (by rw [Es.out, hZs.out]) Eo.out ?_)
                intro wh hrh huh
                rw [HE.out] at hrh
                have Hyrow := Lib.hid hrh
                have hUh : Upd (fun b => b = X) wa wh := Hag.out.then huh (fun b hb e => by have e' : b = Y := e; omega)
                have HLh := Lib.hid (HLa.out.keep Hxd.out hUh (fun b hb => .inl hb) (huh.at_ HTg.out (by omega)) (huh.at_ HMg.out hMY))
                have Huh := Lib.hid huh
                have hgh : wg.heap.size ≤ wh.heap.size := huh.size
                clear hrh huh hUh HE
                have HO := Lib.hid (show OldAt wh (GB wh X M (.slice ao K co) (.slice aw K cw)) u y ay from ⟨⟨_, TreeAt.mono (F := (fun b => GB wa X M (.slice ao K co) (.slice aw K cw) b ∨ wd.heap.size ≤ b)) (fun b hb hl => (by rcases hb with hb | hb; (exact GB.more (show wa.heap.size ≤ wh.heap.size by omega) hb); (exact HLa.out.fresh (show wa.heap.size ≤ b by have hb' : wd.heap.size ≤ b := hb; omega) hl))) _ _ _ (TreeAt.kept Huh.out (fun b hb e => by have e' : b = Y := e; rcases hb with hb | hb; (have := hb.1; omega); (have hb' : wd.heap.size ≤ b := hb; omega)) _ _ _ ((show TreeAt wf _ _ u y by rw [Hyr.out]; exact TreeAt.renamed Hu.out ⟨#[]⟩).below Hbg.out))⟩, ⟨_, (Hyn.out.kept Huh.out (fun b hb e => by have e' : b = Y := e; have hb' : wf.heap.size ≤ b := hb; omega)).mono (fun b hb hl => HLa.out.fresh (by have hb' : wf.heap.size ≤ b := hb; omega) hl)⟩, by have h1 := HLa.out.parts; have h2 := Hgd.out; omega⟩)
                clear Hrp hny hbg Hu Hyn Huh Hbg Es Eo
                have HSy := Lib.hid (show wh.drew.rangeAt Y 0 (y.row ay cy) from rangeAt_row Hyrow.out)
                have ym41 := Lib.hid (row_len (n := m) (a := am) (c := cm) Hmwf.out)
                have yy41 := Lib.hid (row_len (n := y) (a := ay) (c := cy) Hywf.out)
                have infy : (Try.prog.info? 30).map (·.size) = some (y.row ay cy).length := by rw [yy41.out]; kernel_rfl
                have yys := Lib.hid (show (y.row ay cy).toArray.size = 41 by rw [List.size_toArray]; exact yy41.out)
                have hrowd : wh.drew.heap[M]? = some (.cells (m.row am cm).toArray 30 (0, 0)) := HLh.out.row
                have Hthm := Lib.hid (show wh.drew.there M 0 41 from there_rowR hrowd 0 41 (by rw [List.size_toArray, ym41.out]; omega))
                have hse := heap_setCells8 wh.drew M (m.row am cm) (y.row ay cy) hrowd (by rw [ym41.out, yy41.out])
                have hsu := upd_setCells wh.drew M 0 (y.row ay cy)
                obtain ⟨wi, hwi⟩ : ∃ wi, wi = wh.drew.setCells M 0 (y.row ay cy).toArray.toList := ⟨_, rfl⟩
                rw [show wh.drew.setCells M 0 (y.row ay cy) = wi from hwi.symm] at hse hsu
                have Hwi := Lib.hid hwi
                have HSi := Lib.hid (show wi.rangeAt Y 0 (y.row ay cy) from rangeAt_kept HSy.out hsu (fun e => hMY e.symm))
                have HL := Lib.hid (LSt.newm (HLh.out.below (on_drew (Below.refl _ _))) hsu hse (HO.out.keep ((Upd.refl (fun _ => False) wh).drew) (fun _ _ => id) (fun b hb => GB.more (Nat.le_refl _) hb)) Hgood.out.1 Hgood.out.2.1 Hgood.out.2.2)
                clear hrowd hse hsu hwi HLh HO
                go_wp2_with fail
                refine wp_region_noPanic ?_
                refine wp_region_held_drew (S := (fun w' => w'.rangeAt Y 0 (y.row ay cy))) (by kernel_rfl) HSy.out (fun hHeld => ?_)
                refine wpAnyH_take (i := 0) (v := ?_) rfl (by kernel_rfl) (by kernel_rfl) (by kernel_rfl) (fun _ _ _ h => h) (Or.inl ⟨by rfl, ?_⟩) (by assumption) ?_
                rotate_left
                · intro w hSw; (try dsimp only at hSw); go_simp; (try with_reducible rfl)
                (try simp only [List.getElem_toArray, List.getElem_cons_succ, List.getElem_cons_zero, Act.put, List.setIfInBounds_toArray, List.set_cons_zero, List.set_cons_succ])
                refine wpAnyH_take (i := 1) (v := _) rfl (by kernel_rfl) (by kernel_rfl) (by kernel_rfl) (fun _ _ _ h => h) (yieldsIf_load_mid (by rfl) 30 (.tmp 21) rfl Y 0 rfl (y.row ay cy) _ (fun w hSw => hSw) und41 rfl infy) (by assumption) ?_
                (try simp only [List.getElem_toArray, List.getElem_cons_succ, List.getElem_cons_zero, Act.put, List.setIfInBounds_toArray, List.set_cons_zero, List.set_cons_succ])
                refine wpAnyH_take (i := 2) (v := ?_) rfl (by kernel_rfl) (by kernel_rfl) (by kernel_rfl) (fun _ _ _ h => h) (Or.inl ⟨by rfl, ?_⟩) (by assumption) ?_
                rotate_left
                · intro w hSw; (try dsimp only at hSw); go_simp; (try with_reducible rfl)
                (try simp only [List.getElem_toArray, List.getElem_cons_succ, List.getElem_cons_zero, Act.put, List.setIfInBounds_toArray, List.set_cons_zero, List.set_cons_succ])
                refine wpAnyH_ready (rs := [3]) (by kernel_rfl) (by simp) ?_
                refine AllReadyH.cons rfl (fun KK hKK => ?_) AllReadyH.nil
                rw [if_pos (by rfl)]
                refine wp_store_mid 30 (.tmp 10) (.tmp 152) rfl M 0 (y.row ay cy).toArray rfl rfl (by rw [yys.out]; exact Hthm.out) (by rw [yys.out]; kernel_rfl) (all_one (nrow_one _ _ _ _ _ _)) ?_
                rw [← Hwi.out]
                refine hKK.out _ _ HSi.out (fun hHeld => ?_)
                clear hKK KK
                (try simp only [List.getElem_toArray, List.getElem_cons_succ, List.getElem_cons_zero, Act.put, List.setIfInBounds_toArray, List.set_cons_zero, List.set_cons_succ])
                refine wpAnyH_done (by kernel_rfl) ?_ _
                refine NoPanic.normal ?_
                clear hHeld HSy HSi Hwi Hthm
                obtain ⟨rm, hrm⟩ : ∃ r, r = i % 250 := ⟨_, rfl⟩
                have em : (i : Int).tmod 250 = (rm : Int) := by rw [hrm]; rfl
                clear hrm
                by_cases h249 : rm = 249
                · as_aux_lemma =>
                    subst h249
                    go_wp2_with fail
                    clear em
                    have HD := Lib.hid (HL.out.below (on_drew (Below.refl wi.heap.size wi)))
                    have HM0 := Lib.hid (rangeAt_row HD.out.row)
                    obtain ⟨dnn, hnn⟩ := HD.out.now.node
                    have hn32 := Lib.hid hnn.vwf.1
                    have n41 := Lib.hid (row_len (n := y) (a := ay) (c := cy) hnn.vwf)
                    have infn : (Try.prog.info? 30).map (·.size) = some (y.row ay cy).length := by rw [n41.out]; kernel_rfl
                    clear hnn
                    refine wp_region_noPanic ?_
                    refine wp_region_held_drew (S := (fun w' => w'.rangeAt M 0 (y.row ay cy))) (by kernel_rfl) HM0.out (fun hHeld => ?_)
                    refine wpAnyH_take (i := 0) (v := ?_) rfl (by kernel_rfl) (by kernel_rfl) (by kernel_rfl) (fun _ _ _ h => h) (Or.inl ⟨by rfl, ?_⟩) (by assumption) ?_
                    rotate_left
                    · intro w hSw; (try dsimp only at hSw); go_simp; (try with_reducible rfl)
                    (try simp only [List.getElem_toArray, List.getElem_cons_succ, List.getElem_cons_zero, Act.put, List.setIfInBounds_toArray, List.set_cons_zero, List.set_cons_succ])
                    refine wpAnyH_take (i := 1) (v := ?_) rfl (by kernel_rfl) (by kernel_rfl) (by kernel_rfl) (fun _ _ _ h => h) (Or.inl ⟨by rfl, ?_⟩) (by assumption) ?_
                    rotate_left
                    · intro w hSw; (try dsimp only at hSw); go_simp; (try with_reducible rfl)
                    (try simp only [List.getElem_toArray, List.getElem_cons_succ, List.getElem_cons_zero, Act.put, List.setIfInBounds_toArray, List.set_cons_zero, List.set_cons_succ])
                    refine wpAnyH_take (i := 4) (v := ?_) rfl (by kernel_rfl) (by kernel_rfl) (by kernel_rfl) (fun _ _ _ h => h) (Or.inl ⟨by rfl, ?_⟩) (by assumption) ?_
                    rotate_left
                    · intro w hSw; (try dsimp only at hSw); go_simp; (try with_reducible rfl)
                    (try simp only [List.getElem_toArray, List.getElem_cons_succ, List.getElem_cons_zero, Act.put, List.setIfInBounds_toArray, List.set_cons_zero, List.set_cons_succ])
                    refine wpAnyH_take (i := 5) (v := _) rfl (by kernel_rfl) (by kernel_rfl) (by kernel_rfl) (fun _ _ _ h => h) (yieldsIf_load_mid (by rfl) 30 (.tmp 10) rfl M 0 rfl (y.row ay cy) _ (fun w hSw => hSw) und41 rfl infn) (by assumption) ?_
                    (try simp only [List.getElem_toArray, List.getElem_cons_succ, List.getElem_cons_zero, Act.put, List.setIfInBounds_toArray, List.set_cons_zero, List.set_cons_succ])
                    refine wpAnyH_ready (rs := [2, 6]) (by kernel_rfl) (by simp) ?_
                    refine AllReadyH.cons rfl (fun KK hKK => ?_) (AllReadyH.cons rfl (fun KK hKK => ?_) AllReadyH.nil)
                    · rw [if_pos (by rfl)]
                      refine wp_buildSlice_eq 89 1 #[(0, .tmp 157)] rfl #[(0, .pointer (some ⟨u, 0, none⟩))] (by kernel_rfl) _ (build_ptrL u _) ?_
                      have hBp := on_alloc (Below.refl wi.drew.heap.size wi.drew) (.cells #[.pointer (some ⟨u, 0, none⟩)] 55)
                      have hSp := Sl.made wi.drew 55 1 1 1 #[.pointer (some ⟨u, 0, none⟩)] (0, 0) [.pointer (some ⟨u, 0, none⟩)] rfl rfl (by omega)
                      generalize wi.drew.alloc (.cells #[.pointer (some ⟨u, 0, none⟩)] 55) = wp at hBp hSp ⊢
                      obtain ⟨gp, hgp⟩ : ∃ g, g = wi.drew.heap.size := ⟨_, rfl⟩
                      rw [← hgp] at hSp ⊢
                      clear hgp
                      have HBp := Lib.hid hBp
                      have HSp := Lib.hid hSp
                      have HMp := Lib.hid (rangeAt_kept HM0.out (Upd.below hBp (fun _ => False)) id)
                      clear hBp hSp
                      refine hKK.out _ _ HMp.out (fun hHeld => ?_)
                      clear hKK KK
                      (try simp only [List.getElem_toArray, List.getElem_cons_succ, List.getElem_cons_zero, Act.put, List.setIfInBounds_toArray, List.set_cons_zero, List.set_cons_succ])
                      refine wpAnyH_ready (rs := [3, 6]) (by kernel_rfl) (by simp) ?_
                      refine AllReadyH.cons rfl (fun KK hKK => ?_) (AllReadyH.cons rfl (fun KK hKK => ?_) AllReadyH.nil)
                      · refine step_append_any rfl (.tmp 156) (.tmp 158) 89 rfl 55 ip0 (.pointer none) 1 8 Try.underlying89 hip hip0 hip1 hip2 rfl (by decide) (.slice ao K co) K (ptrs ps) (.slice (some ⟨gp, 0, none⟩) 1 1) 1 [.pointer (some ⟨u, 0, none⟩)] rfl rfl (HD.out.old.kept (Upd.below HBp.out (fun _ => False)) (fun _ _ => id)) HSp.out (by intro u hu; simp at hu; rw [hu]; rfl) (by omega) (by omega) ?_
                        intro a1 c1 wq ho hg hn
                        have uq : Upd (fun b => (Value.slice ao K co).ownBlock = some b) wp wq := Upd.grown (Upd.refl _ wp) hg (fun b hb _ => hb)
                        have HMq := Lib.hid (rangeAt_kept HMp.out uq HD.out.sepo.2)
                        have Hap := Lib.hid (And.intro ho (And.intro hg hn))
                        have Huq := Lib.hid uq
                        clear ho hg hn uq
                        refine hKK.out _ _ HMq.out (fun hHeld => ?_)
                        clear hKK KK
                        (try simp only [List.getElem_toArray, List.getElem_cons_succ, List.getElem_cons_zero, Act.put, List.setIfInBounds_toArray, List.set_cons_zero, List.set_cons_succ])
                        refine wpAnyH_ready (rs := [6]) (by kernel_rfl) (by simp) ?_
                        refine AllReadyH.cons rfl (fun KK hKK => ?_) AllReadyH.nil
                        rw [if_pos (by rfl)]
                        refine wp_buildSlice_eq 28 1 #[(0, .tmp 161)] rfl #[(0, .agg (y.row ay cy).toArray)] (by kernel_rfl) _ (build_node y ay cy hn32.out _) ?_
                        have hBn := on_alloc (Below.refl wq.heap.size wq) (.cells (y.row ay cy).toArray 30)
                        have hSn := Sl.made wq 30 41 1 1 (y.row ay cy).toArray (0, 0) (y.row ay cy) (List.toList_toArray ..) (by rw [n41.out]) (by omega)
                        generalize wq.alloc (.cells (y.row ay cy).toArray 30) = wn at hBn hSn ⊢
                        obtain ⟨gn, hgn⟩ : ∃ g, g = wq.heap.size := ⟨_, rfl⟩
                        have Hgnw := Lib.hid (show wi.drew.heap.size ≤ gn by rw [hgn]; exact (Nat.le_trans HBp.out.size Huq.out.size))
                        rw [← hgn] at hSn ⊢
                        clear hgn
                        have HBn := Lib.hid hBn
                        have HSn := Lib.hid hSn
                        have HMn := Lib.hid (rangeAt_kept HMq.out (Upd.below hBn (fun _ => False)) id)
                        clear hBn hSn
                        refine hKK.out _ _ HMn.out (fun hHeld => ?_)
                        clear hKK KK
                        (try simp only [List.getElem_toArray, List.getElem_cons_succ, List.getElem_cons_zero, Act.put, List.setIfInBounds_toArray, List.set_cons_zero, List.set_cons_succ])
                        refine wpAnyH_ready (rs := [7]) (by kernel_rfl) (by simp) ?_
                        refine AllReadyH.cons rfl (fun KK hKK => ?_) AllReadyH.nil
                        refine step_append_any rfl (.tmp 160) (.tmp 162) 28 rfl 30 i0 _ 41 128 Try.underlying28 hi0 hz0 hz1 hz2 rfl (by decide) (.slice aw K cw) K (rowsOf ws al) (.slice (some ⟨gn, 0, none⟩) 1 1) 1 (y.row ay cy) rfl rfl (((HD.out.was.kept (Upd.below HBp.out (fun _ => False)) (fun _ _ => id)).kept Huq.out (fun b hb e => HD.out.old.parted HD.out.was (by decide) b e hb)).kept (Upd.below HBn.out (fun _ => False)) (fun _ _ => id)) HSn.out (nrow_one _ _ _ _ _ _) (by omega) (by omega) ?_
                        intro a2 c2 wz ho2 hg2 hn2
                        have HLp := Lib.hid (HD.out.push HBp.out Hap.out.1 Hap.out.2.1 Hap.out.2.2 HBn.out ho2 hg2 hn2)
                        have HMz := Lib.hid (rangeAt_row HLp.out.row)
                        clear ho2 hg2 hn2 Hap
                        refine hKK.out _ _ HMz.out (fun hHeld => ?_)
                        clear hKK KK
                        (try simp only [List.getElem_toArray, List.getElem_cons_succ, List.getElem_cons_zero, Act.put, List.setIfInBounds_toArray, List.set_cons_zero, List.set_cons_succ])
                        refine wpAnyH_take (i := 8) (v := ?_) rfl (by kernel_rfl) (by kernel_rfl) (by kernel_rfl) (fun _ _ _ h => h) (Or.inl ⟨by rfl, ?_⟩) (by assumption) ?_
                        rotate_left
                        · intro w hSw; (try dsimp only at hSw); go_simp; (try with_reducible rfl)
                        (try simp only [List.getElem_toArray, List.getElem_cons_succ, List.getElem_cons_zero, Act.put, List.setIfInBounds_toArray, List.set_cons_zero, List.set_cons_succ])
                        refine wpAnyH_take (i := 9) (v := ?_) rfl (by kernel_rfl) (by kernel_rfl) (by kernel_rfl) (fun _ _ _ h => h) (Or.inl ⟨by rfl, ?_⟩) (by assumption) ?_
                        rotate_left
                        · intro w hSw; (try dsimp only at hSw); go_simp; (try with_reducible rfl)
                        (try simp only [List.getElem_toArray, List.getElem_cons_succ, List.getElem_cons_zero, Act.put, List.setIfInBounds_toArray, List.set_cons_zero, List.set_cons_succ])
                        refine wpAnyH_done (by kernel_rfl) ?_ _
                        refine NoPanic.normal ?_
                        clear hHeld
                        go_wp2_with fail
                        go_roundw
                        case rel => exact ⟨i + 1, xd, u, y, ay, cy, a1, a2, c1, c2, K + 1, _, _, _, by omega, rfl, rfl, rfl, by go_num, by omega, HLp.out⟩
                        case measure => simp [intOf]; omega
                      · rw [if_pos (by rfl)]
                        refine wp_buildSlice_eq 28 1 #[(0, .tmp 161)] rfl #[(0, .agg (y.row ay cy).toArray)] (by kernel_rfl) _ (build_node y ay cy hn32.out _) ?_
                        have hBn := on_alloc (Below.refl wp.heap.size wp) (.cells (y.row ay cy).toArray 30)
                        have hSn := Sl.made wp 30 41 1 1 (y.row ay cy).toArray (0, 0) (y.row ay cy) (List.toList_toArray ..) (by rw [n41.out]) (by omega)
                        generalize wp.alloc (.cells (y.row ay cy).toArray 30) = wn at hBn hSn ⊢
                        obtain ⟨gn, hgn⟩ : ∃ g, g = wp.heap.size := ⟨_, rfl⟩
                        have Hgnw := Lib.hid (show wi.drew.heap.size ≤ gn by rw [hgn]; exact HBp.out.size)
                        rw [← hgn] at hSn ⊢
                        clear hgn
                        have HBn := Lib.hid hBn
                        have HSn := Lib.hid hSn
                        have HMn := Lib.hid (rangeAt_kept HMp.out (Upd.below hBn (fun _ => False)) id)
                        clear hBn hSn
                        refine hKK.out _ _ HMn.out (fun hHeld => ?_)
                        clear hKK KK
                        (try simp only [List.getElem_toArray, List.getElem_cons_succ, List.getElem_cons_zero, Act.put, List.setIfInBounds_toArray, List.set_cons_zero, List.set_cons_succ])
                        have HB2 := Lib.hid (HBp.out.trans (HBn.out.mono HBp.out.size))
                        refine wpAnyH_ready (rs := [3]) (by kernel_rfl) (by simp) ?_
                        refine AllReadyH.cons rfl (fun KK hKK => ?_) AllReadyH.nil
                        refine step_append_any rfl (.tmp 156) (.tmp 158) 89 rfl 55 ip0 (.pointer none) 1 8 Try.underlying89 hip hip0 hip1 hip2 rfl (by decide) (.slice ao K co) K (ptrs ps) (.slice (some ⟨gp, 0, none⟩) 1 1) 1 [.pointer (some ⟨u, 0, none⟩)] rfl rfl (HD.out.old.kept (Upd.below HB2.out (fun _ => False)) (fun _ _ => id)) (HSp.out.kept (Upd.below HBn.out (fun _ => False)) (fun _ _ _ => id)) (by intro u hu; simp at hu; rw [hu]; rfl) (by omega) (by omega) ?_
                        intro a1 c1 wq ho hg hn
                        have uq : Upd (fun b => (Value.slice ao K co).ownBlock = some b) wn wq := Upd.grown (Upd.refl _ wn) hg (fun b hb _ => hb)
                        have HMq := Lib.hid (rangeAt_kept HMn.out uq HD.out.sepo.2)
                        have Hap := Lib.hid (And.intro ho (And.intro hg hn))
                        have Huq := Lib.hid uq
                        clear ho hg hn uq
                        refine hKK.out _ _ HMq.out (fun hHeld => ?_)
                        clear hKK KK
                        (try simp only [List.getElem_toArray, List.getElem_cons_succ, List.getElem_cons_zero, Act.put, List.setIfInBounds_toArray, List.set_cons_zero, List.set_cons_succ])
                        refine wpAnyH_ready (rs := [7]) (by kernel_rfl) (by simp) ?_
                        refine AllReadyH.cons rfl (fun KK hKK => ?_) AllReadyH.nil
                        refine step_append_any rfl (.tmp 160) (.tmp 162) 28 rfl 30 i0 _ 41 128 Try.underlying28 hi0 hz0 hz1 hz2 rfl (by decide) (.slice aw K cw) K (rowsOf ws al) (.slice (some ⟨gn, 0, none⟩) 1 1) 1 (y.row ay cy) rfl rfl ((HD.out.was.kept (Upd.below HB2.out (fun _ => False)) (fun _ _ => id)).kept Huq.out (fun b hb e => HD.out.old.parted HD.out.was (by decide) b e hb)) (HSn.out.kept Huq.out (fun b hb _ e => by have h1 := HD.out.old.lt e; have h2 := Hgnw.out; simp [Value.ownBlock] at hb; omega)) (nrow_one _ _ _ _ _ _) (by omega) (by omega) ?_
                        intro a2 c2 wz ho2 hg2 hn2
                        have HLp := Lib.hid (HD.out.push HB2.out Hap.out.1 Hap.out.2.1 Hap.out.2.2 (Below.refl _ _) ho2 hg2 hn2)
                        have HMz := Lib.hid (rangeAt_row HLp.out.row)
                        clear ho2 hg2 hn2 Hap
                        refine hKK.out _ _ HMz.out (fun hHeld => ?_)
                        clear hKK KK
                        (try simp only [List.getElem_toArray, List.getElem_cons_succ, List.getElem_cons_zero, Act.put, List.setIfInBounds_toArray, List.set_cons_zero, List.set_cons_succ])
                        refine wpAnyH_take (i := 8) (v := ?_) rfl (by kernel_rfl) (by kernel_rfl) (by kernel_rfl) (fun _ _ _ h => h) (Or.inl ⟨by rfl, ?_⟩) (by assumption) ?_
                        rotate_left
                        · intro w hSw; (try dsimp only at hSw); go_simp; (try with_reducible rfl)
                        (try simp only [List.getElem_toArray, List.getElem_cons_succ, List.getElem_cons_zero, Act.put, List.setIfInBounds_toArray, List.set_cons_zero, List.set_cons_succ])
                        refine wpAnyH_take (i := 9) (v := ?_) rfl (by kernel_rfl) (by kernel_rfl) (by kernel_rfl) (fun _ _ _ h => h) (Or.inl ⟨by rfl, ?_⟩) (by assumption) ?_
                        rotate_left
                        · intro w hSw; (try dsimp only at hSw); go_simp; (try with_reducible rfl)
                        (try simp only [List.getElem_toArray, List.getElem_cons_succ, List.getElem_cons_zero, Act.put, List.setIfInBounds_toArray, List.set_cons_zero, List.set_cons_succ])
                        refine wpAnyH_done (by kernel_rfl) ?_ _
                        refine NoPanic.normal ?_
                        clear hHeld
                        go_wp2_with fail
                        go_roundw
                        case rel => exact ⟨i + 1, xd, u, y, ay, cy, a1, a2, c1, c2, K + 1, _, _, _, by omega, rfl, rfl, rfl, by go_num, by omega, HLp.out⟩
                        case measure => simp [intOf]; omega
                    · rw [if_pos (by rfl)]
                      refine wp_buildSlice_eq 28 1 #[(0, .tmp 161)] rfl #[(0, .agg (y.row ay cy).toArray)] (by kernel_rfl) _ (build_node y ay cy hn32.out _) ?_
                      have hBn := on_alloc (Below.refl wi.drew.heap.size wi.drew) (.cells (y.row ay cy).toArray 30)
                      have hSn := Sl.made wi.drew 30 41 1 1 (y.row ay cy).toArray (0, 0) (y.row ay cy) (List.toList_toArray ..) (by rw [n41.out]) (by omega)
                      generalize wi.drew.alloc (.cells (y.row ay cy).toArray 30) = wn at hBn hSn ⊢
                      obtain ⟨gn, hgn⟩ : ∃ g, g = wi.drew.heap.size := ⟨_, rfl⟩
                      have Hgnw := Lib.hid (show wi.drew.heap.size ≤ gn by rw [hgn]; exact (Nat.le_refl _))
                      rw [← hgn] at hSn ⊢
                      clear hgn
                      have HBn := Lib.hid hBn
                      have HSn := Lib.hid hSn
                      have HMn := Lib.hid (rangeAt_kept HM0.out (Upd.below hBn (fun _ => False)) id)
                      clear hBn hSn
                      refine hKK.out _ _ HMn.out (fun hHeld => ?_)
                      clear hKK KK
                      (try simp only [List.getElem_toArray, List.getElem_cons_succ, List.getElem_cons_zero, Act.put, List.setIfInBounds_toArray, List.set_cons_zero, List.set_cons_succ])
                      refine wpAnyH_ready (rs := [2]) (by kernel_rfl) (by simp) ?_
                      refine AllReadyH.cons rfl (fun KK hKK => ?_) AllReadyH.nil
                      rw [if_pos (by rfl)]
                      refine wp_buildSlice_eq 89 1 #[(0, .tmp 157)] rfl #[(0, .pointer (some ⟨u, 0, none⟩))] (by kernel_rfl) _ (build_ptrL u _) ?_
                      have hBp := on_alloc (Below.refl wn.heap.size wn) (.cells #[.pointer (some ⟨u, 0, none⟩)] 55)
                      have hSp := Sl.made wn 55 1 1 1 #[.pointer (some ⟨u, 0, none⟩)] (0, 0) [.pointer (some ⟨u, 0, none⟩)] rfl rfl (by omega)
                      generalize wn.alloc (.cells #[.pointer (some ⟨u, 0, none⟩)] 55) = wp at hBp hSp ⊢
                      obtain ⟨gp, hgp⟩ : ∃ g, g = wn.heap.size := ⟨_, rfl⟩
                      rw [← hgp] at hSp ⊢
                      clear hgp
                      have HBp := Lib.hid hBp
                      have HSp := Lib.hid hSp
                      have HMp := Lib.hid (rangeAt_kept HMn.out (Upd.below hBp (fun _ => False)) id)
                      clear hBp hSp
                      refine hKK.out _ _ HMp.out (fun hHeld => ?_)
                      clear hKK KK
                      (try simp only [List.getElem_toArray, List.getElem_cons_succ, List.getElem_cons_zero, Act.put, List.setIfInBounds_toArray, List.set_cons_zero, List.set_cons_succ])
                      have HB2 := Lib.hid (HBn.out.trans (HBp.out.mono HBn.out.size))
                      refine wpAnyH_ready (rs := [3]) (by kernel_rfl) (by simp) ?_
                      refine AllReadyH.cons rfl (fun KK hKK => ?_) AllReadyH.nil
                      refine step_append_any rfl (.tmp 156) (.tmp 158) 89 rfl 55 ip0 (.pointer none) 1 8 Try.underlying89 hip hip0 hip1 hip2 rfl (by decide) (.slice ao K co) K (ptrs ps) (.slice (some ⟨gp, 0, none⟩) 1 1) 1 [.pointer (some ⟨u, 0, none⟩)] rfl rfl (HD.out.old.kept (Upd.below HB2.out (fun _ => False)) (fun _ _ => id)) HSp.out (by intro u hu; simp at hu; rw [hu]; rfl) (by omega) (by omega) ?_
                      intro a1 c1 wq ho hg hn
                      have uq : Upd (fun b => (Value.slice ao K co).ownBlock = some b) wp wq := Upd.grown (Upd.refl _ wp) hg (fun b hb _ => hb)
                      have HMq := Lib.hid (rangeAt_kept HMp.out uq HD.out.sepo.2)
                      have Hap := Lib.hid (And.intro ho (And.intro hg hn))
                      have Huq := Lib.hid uq
                      clear ho hg hn uq
                      refine hKK.out _ _ HMq.out (fun hHeld => ?_)
                      clear hKK KK
                      (try simp only [List.getElem_toArray, List.getElem_cons_succ, List.getElem_cons_zero, Act.put, List.setIfInBounds_toArray, List.set_cons_zero, List.set_cons_succ])
                      refine wpAnyH_ready (rs := [7]) (by kernel_rfl) (by simp) ?_
                      refine AllReadyH.cons rfl (fun KK hKK => ?_) AllReadyH.nil
                      refine step_append_any rfl (.tmp 160) (.tmp 162) 28 rfl 30 i0 _ 41 128 Try.underlying28 hi0 hz0 hz1 hz2 rfl (by decide) (.slice aw K cw) K (rowsOf ws al) (.slice (some ⟨gn, 0, none⟩) 1 1) 1 (y.row ay cy) rfl rfl ((HD.out.was.kept (Upd.below HB2.out (fun _ => False)) (fun _ _ => id)).kept Huq.out (fun b hb e => HD.out.old.parted HD.out.was (by decide) b e hb)) ((HSn.out.kept (Upd.below HBp.out (fun _ => False)) (fun _ _ _ => id)).kept Huq.out (fun b hb _ e => by have h1 := HD.out.old.lt e; have h2 := Hgnw.out; simp [Value.ownBlock] at hb; omega)) (nrow_one _ _ _ _ _ _) (by omega) (by omega) ?_
                      intro a2 c2 wz ho2 hg2 hn2
                      have HLp := Lib.hid (HD.out.push HB2.out Hap.out.1 Hap.out.2.1 Hap.out.2.2 (Below.refl _ _) ho2 hg2 hn2)
                      have HMz := Lib.hid (rangeAt_row HLp.out.row)
                      clear ho2 hg2 hn2 Hap
                      refine hKK.out _ _ HMz.out (fun hHeld => ?_)
                      clear hKK KK
                      (try simp only [List.getElem_toArray, List.getElem_cons_succ, List.getElem_cons_zero, Act.put, List.setIfInBounds_toArray, List.set_cons_zero, List.set_cons_succ])
                      refine wpAnyH_take (i := 8) (v := ?_) rfl (by kernel_rfl) (by kernel_rfl) (by kernel_rfl) (fun _ _ _ h => h) (Or.inl ⟨by rfl, ?_⟩) (by assumption) ?_
                      rotate_left
                      · intro w hSw; (try dsimp only at hSw); go_simp; (try with_reducible rfl)
                      (try simp only [List.getElem_toArray, List.getElem_cons_succ, List.getElem_cons_zero, Act.put, List.setIfInBounds_toArray, List.set_cons_zero, List.set_cons_succ])
                      refine wpAnyH_take (i := 9) (v := ?_) rfl (by kernel_rfl) (by kernel_rfl) (by kernel_rfl) (fun _ _ _ h => h) (Or.inl ⟨by rfl, ?_⟩) (by assumption) ?_
                      rotate_left
                      · intro w hSw; (try dsimp only at hSw); go_simp; (try with_reducible rfl)
                      (try simp only [List.getElem_toArray, List.getElem_cons_succ, List.getElem_cons_zero, Act.put, List.setIfInBounds_toArray, List.set_cons_zero, List.set_cons_succ])
                      refine wpAnyH_done (by kernel_rfl) ?_ _
                      refine NoPanic.normal ?_
                      clear hHeld
                      go_wp2_with fail
                      go_roundw
                      case rel => exact ⟨i + 1, xd, u, y, ay, cy, a1, a2, c1, c2, K + 1, _, _, _, by omega, rfl, rfl, rfl, by go_num, by omega, HLp.out⟩
                      case measure => simp [intOf]; omega
                · have e249 : ((rm : Int) == 249) = false := beq_f (by omega)
                  go_wp2_with fail
                  go_roundw
                  case rel => exact ⟨i + 1, xd, u, y, ay, cy, ao, aw, co, cw, K, ps, ws, al, by omega, rfl, rfl, rfl, by go_num, by omega, HL.out⟩
                  case measure => simp [intOf]; omega
            · as_aux_lemma =>
                have hdrop := drop_bad (GB wa X M (.slice ao K co) (.slice aw K cw)) dt wd t m q Htd.out HLa.out.ris (by omega) hq9 hpe
                obtain ⟨y, hy⟩ : ∃ y, y = dropRes m q := ⟨_, rfl⟩
                have href := Href.out
                obtain ⟨er, her⟩ : ∃ er, er = dropErr m q := ⟨_, rfl⟩
                rw [← her] at hdrop hpe
                rw [← her, ← hy] at href
                have Hdrop := Lib.hid hdrop
                have Href2 := Lib.hid href
                have er0 : (er == 0) = false := beq_f hpe
                clear hdrop href hy her Href
                go_wp2_with fail
                refine Hdrop.out.mono ?_
                rintro e12 wf ⟨rfl, hbf⟩
                have HMf := Lib.hid ((hbf.block M (lt_heap HMd.out)).trans HMd.out)
                have HVf := Lib.hid ((hbf.block V (lt_heap HVd.out)).trans HVd.out)
                have HYf := Lib.hid ((hbf.block Y (lt_heap HYd.out)).trans HYd.out)
                have Haf := Lib.hid (Had.out.trans (Upd.below hbf (fun b => b = X)))
                have HTf := Lib.hid ((hbf.block X (lt_heap HTd.out)).trans HTd.out)
                have hdf : wd.heap.size ≤ wf.heap.size := hbf.size
                have Hrp := Lib.hid (Href2.out wf ((Hnd.out.below hbf).mono (fun b _ hl => hl)))
                clear hbf Hdrop Htd Hnd Href2
                go_wp2_with (refine wpList_load_midg (by rfl) 30 (.tmp 10) rfl M 0 rfl (m.row am cm) _ (rangeAt_row HMf.out) Try.underlying30 rfl (by rw [mm41.out]; kernel_rfl) ?_)
                refine Hrp.out.mono ?_
                rintro e13 wg ⟨ay, cy, rfl, hny, hbg⟩
                have HMg := Lib.hid ((hbg.block M (lt_heap HMf.out)).trans HMf.out)
                have HVg := Lib.hid ((hbg.block V (lt_heap HVf.out)).trans HVf.out)
                have HYg := Lib.hid ((hbg.block Y (lt_heap HYf.out)).trans HYf.out)
                have Hag := Lib.hid (Haf.out.trans (Upd.below hbg (fun b => b = X)))
                have HTg := Lib.hid ((hbg.block X (lt_heap HTf.out)).trans HTf.out)
                have hfg : wf.heap.size ≤ wg.heap.size := hbg.size
                obtain ⟨E, hE⟩ : ∃ E : Array Value, E = (y.row ay cy).toArray := ⟨_, rfl⟩
                have Es := Lib.hid (show E.size = 41 by rw [hE, List.size_toArray]; exact row_len hny.vwf)
                have Eo := Lib.hid (show E.all (·.oneCell') = true by rw [hE]; exact all_one (nrow_one _ _ _ _ _ _))
                have HE := Lib.hid hE
                rw [← hE]
                clear hE
                go_wp2_with (refine wpList_store_rowg rfl 30 (.tmp 21) (.tmp 92) rfl Y E rfl rfl 30 Z HYg.out (by rw [Es.out]; kernel_rfl) (by rw [Es.out, hZs.out]) Eo.out ?_)
                intro wh hrh huh
                rw [HE.out] at hrh
                have Hyrow := Lib.hid hrh
                have hUh : Upd (fun b => b = X) wa wh := Hag.out.then huh (fun b hb e => by have e' : b = Y := e; omega)
                have HLh := Lib.hid (HLa.out.keep Hxd.out hUh (fun b hb => .inl hb) (huh.at_ HTg.out (by omega)) (huh.at_ HMg.out hMY))
                have Huh := Lib.hid huh
                have hgh : wg.heap.size ≤ wh.heap.size := huh.size
                clear hrh huh hUh HE
                clear Hrp hny hbg Huh Es Eo
                have HL := Lib.hid HLh.out.later
                clear HLh
                skip
                obtain ⟨rm, hrm⟩ : ∃ r, r = i % 250 := ⟨_, rfl⟩
                have em : (i : Int).tmod 250 = (rm : Int) := by rw [hrm]; rfl
                clear hrm
                by_cases h249 : rm = 249
                · as_aux_lemma =>
                    subst h249
                    go_wp2_with fail
                    clear em
                    have HD := Lib.hid (HL.out.below (on_drew (Below.refl wh.heap.size wh)))
                    have HM0 := Lib.hid (rangeAt_row HD.out.row)
                    obtain ⟨dnn, hnn⟩ := HD.out.now.node
                    have hn32 := Lib.hid hnn.vwf.1
                    have n41 := Lib.hid (row_len (n := m) (a := am) (c := cm) hnn.vwf)
                    have infn : (Try.prog.info? 30).map (·.size) = some (m.row am cm).length := by rw [n41.out]; kernel_rfl
                    clear hnn
                    refine wp_region_noPanic ?_
                    refine wp_region_held_drew (S := (fun w' => w'.rangeAt M 0 (m.row am cm))) (by kernel_rfl) HM0.out (fun hHeld => ?_)
                    refine wpAnyH_take (i := 0) (v := ?_) rfl (by kernel_rfl) (by kernel_rfl) (by kernel_rfl) (fun _ _ _ h => h) (Or.inl ⟨by rfl, ?_⟩) (by assumption) ?_
                    rotate_left
                    · intro w hSw; (try dsimp only at hSw); go_simp; (try with_reducible rfl)
                    (try simp only [List.getElem_toArray, List.getElem_cons_succ, List.getElem_cons_zero, Act.put, List.setIfInBounds_toArray, List.set_cons_zero, List.set_cons_succ])
                    refine wpAnyH_take (i := 1) (v := ?_) rfl (by kernel_rfl) (by kernel_rfl) (by kernel_rfl) (fun _ _ _ h => h) (Or.inl ⟨by rfl, ?_⟩) (by assumption) ?_
                    rotate_left
                    · intro w hSw; (try dsimp only at hSw); go_simp; (try with_reducible rfl)
                    (try simp only [List.getElem_toArray, List.getElem_cons_succ, List.getElem_cons_zero, Act.put, List.setIfInBounds_toArray, List.set_cons_zero, List.set_cons_succ])
                    refine wpAnyH_take (i := 4) (v := ?_) rfl (by kernel_rfl) (by kernel_rfl) (by kernel_rfl) (fun _ _ _ h => h) (Or.inl ⟨by rfl, ?_⟩) (by assumption) ?_
                    rotate_left
                    · intro w hSw; (try dsimp only at hSw); go_simp; (try with_reducible rfl)
                    (try simp only [List.getElem_toArray, List.getElem_cons_succ, List.getElem_cons_zero, Act.put, List.setIfInBounds_toArray, List.set_cons_zero, List.set_cons_succ])
                    refine wpAnyH_take (i := 5) (v := _) rfl (by kernel_rfl) (by kernel_rfl) (by kernel_rfl) (fun _ _ _ h => h) (yieldsIf_load_mid (by rfl) 30 (.tmp 10) rfl M 0 rfl (m.row am cm) _ (fun w hSw => hSw) und41 rfl infn) (by assumption) ?_
                    (try simp only [List.getElem_toArray, List.getElem_cons_succ, List.getElem_cons_zero, Act.put, List.setIfInBounds_toArray, List.set_cons_zero, List.set_cons_succ])
                    refine wpAnyH_ready (rs := [2, 6]) (by kernel_rfl) (by simp) ?_
                    refine AllReadyH.cons rfl (fun KK hKK => ?_) (AllReadyH.cons rfl (fun KK hKK => ?_) AllReadyH.nil)
                    · rw [if_pos (by rfl)]
                      refine wp_buildSlice_eq 89 1 #[(0, .tmp 157)] rfl #[(0, .pointer (some ⟨t, 0, none⟩))] (by kernel_rfl) _ (build_ptrL t _) ?_
                      have hBp := on_alloc (Below.refl wh.drew.heap.size wh.drew) (.cells #[.pointer (some ⟨t, 0, none⟩)] 55)
                      have hSp := Sl.made wh.drew 55 1 1 1 #[.pointer (some ⟨t, 0, none⟩)] (0, 0) [.pointer (some ⟨t, 0, none⟩)] rfl rfl (by omega)
                      generalize wh.drew.alloc (.cells #[.pointer (some ⟨t, 0, none⟩)] 55) = wp at hBp hSp ⊢
                      obtain ⟨gp, hgp⟩ : ∃ g, g = wh.drew.heap.size := ⟨_, rfl⟩
                      rw [← hgp] at hSp ⊢
                      clear hgp
                      have HBp := Lib.hid hBp
                      have HSp := Lib.hid hSp
                      have HMp := Lib.hid (rangeAt_kept HM0.out (Upd.below hBp (fun _ => False)) id)
                      clear hBp hSp
                      refine hKK.out _ _ HMp.out (fun hHeld => ?_)
                      clear hKK KK
                      (try simp only [List.getElem_toArray, List.getElem_cons_succ, List.getElem_cons_zero, Act.put, List.setIfInBounds_toArray, List.set_cons_zero, List.set_cons_succ])
                      refine wpAnyH_ready (rs := [3, 6]) (by kernel_rfl) (by simp) ?_
                      refine AllReadyH.cons rfl (fun KK hKK => ?_) (AllReadyH.cons rfl (fun KK hKK => ?_) AllReadyH.nil)
                      · refine step_append_any rfl (.tmp 156) (.tmp 158) 89 rfl 55 ip0 (.pointer none) 1 8 Try.underlying89 hip hip0 hip1 hip2 rfl (by decide) (.slice ao K co) K (ptrs ps) (.slice (some ⟨gp, 0, none⟩) 1 1) 1 [.pointer (some ⟨t, 0, none⟩)] rfl rfl (HD.out.old.kept (Upd.below HBp.out (fun _ => False)) (fun _ _ => id)) HSp.out (by intro u hu; simp at hu; rw [hu]; rfl) (by omega) (by omega) ?_
                        intro a1 c1 wq ho hg hn
                        have uq : Upd (fun b => (Value.slice ao K co).ownBlock = some b) wp wq := Upd.grown (Upd.refl _ wp) hg (fun b hb _ => hb)
                        have HMq := Lib.hid (rangeAt_kept HMp.out uq HD.out.sepo.2)
                        have Hap := Lib.hid (And.intro ho (And.intro hg hn))
                        have Huq := Lib.hid uq
                        clear ho hg hn uq
                        refine hKK.out _ _ HMq.out (fun hHeld => ?_)
                        clear hKK KK
                        (try simp only [List.getElem_toArray, List.getElem_cons_succ, List.getElem_cons_zero, Act.put, List.setIfInBounds_toArray, List.set_cons_zero, List.set_cons_succ])
                        refine wpAnyH_ready (rs := [6]) (by kernel_rfl) (by simp) ?_
                        refine AllReadyH.cons rfl (fun KK hKK => ?_) AllReadyH.nil
                        rw [if_pos (by rfl)]
                        refine wp_buildSlice_eq 28 1 #[(0, .tmp 161)] rfl #[(0, .agg (m.row am cm).toArray)] (by kernel_rfl) _ (build_node m am cm hn32.out _) ?_
                        have hBn := on_alloc (Below.refl wq.heap.size wq) (.cells (m.row am cm).toArray 30)
                        have hSn := Sl.made wq 30 41 1 1 (m.row am cm).toArray (0, 0) (m.row am cm) (List.toList_toArray ..) (by rw [n41.out]) (by omega)
                        generalize wq.alloc (.cells (m.row am cm).toArray 30) = wn at hBn hSn ⊢
                        obtain ⟨gn, hgn⟩ : ∃ g, g = wq.heap.size := ⟨_, rfl⟩
                        have Hgnw := Lib.hid (show wh.drew.heap.size ≤ gn by rw [hgn]; exact (Nat.le_trans HBp.out.size Huq.out.size))
                        rw [← hgn] at hSn ⊢
                        clear hgn
                        have HBn := Lib.hid hBn
                        have HSn := Lib.hid hSn
                        have HMn := Lib.hid (rangeAt_kept HMq.out (Upd.below hBn (fun _ => False)) id)
                        clear hBn hSn
                        refine hKK.out _ _ HMn.out (fun hHeld => ?_)
                        clear hKK KK
                        (try simp only [List.getElem_toArray, List.getElem_cons_succ, List.getElem_cons_zero, Act.put, List.setIfInBounds_toArray, List.set_cons_zero, List.set_cons_succ])
                        refine wpAnyH_ready (rs := [7]) (by kernel_rfl) (by simp) ?_
                        refine AllReadyH.cons rfl (fun KK hKK => ?_) AllReadyH.nil
                        refine step_append_any rfl (.tmp 160) (.tmp 162) 28 rfl 30 i0 _ 41 128 Try.underlying28 hi0 hz0 hz1 hz2 rfl (by decide) (.slice aw K cw) K (rowsOf ws al) (.slice (some ⟨gn, 0, none⟩) 1 1) 1 (m.row am cm) rfl rfl (((HD.out.was.kept (Upd.below HBp.out (fun _ => False)) (fun _ _ => id)).kept Huq.out (fun b hb e => HD.out.old.parted HD.out.was (by decide) b e hb)).kept (Upd.below HBn.out (fun _ => False)) (fun _ _ => id)) HSn.out (nrow_one _ _ _ _ _ _) (by omega) (by omega) ?_
                        intro a2 c2 wz ho2 hg2 hn2
                        have HLp := Lib.hid (HD.out.push HBp.out Hap.out.1 Hap.out.2.1 Hap.out.2.2 HBn.out ho2 hg2 hn2)
                        have HMz := Lib.hid (rangeAt_row HLp.out.row)
                        clear ho2 hg2 hn2 Hap
                        refine hKK.out _ _ HMz.out (fun hHeld => ?_)
                        clear hKK KK
                        (try simp only [List.getElem_toArray, List.getElem_cons_succ, List.getElem_cons_zero, Act.put, List.setIfInBounds_toArray, List.set_cons_zero, List.set_cons_succ])
                        refine wpAnyH_take (i := 8) (v := ?_) rfl (by kernel_rfl) (by kernel_rfl) (by kernel_rfl) (fun _ _ _ h => h) (Or.inl ⟨by rfl, ?_⟩) (by assumption) ?_
                        rotate_left
                        · intro w hSw; (try dsimp only at hSw); go_simp; (try with_reducible rfl)
                        (try simp only [List.getElem_toArray, List.getElem_cons_succ, List.getElem_cons_zero, Act.put, List.setIfInBounds_toArray, List.set_cons_zero, List.set_cons_succ])
                        refine wpAnyH_take (i := 9) (v := ?_) rfl (by kernel_rfl) (by kernel_rfl) (by kernel_rfl) (fun _ _ _ h => h) (Or.inl ⟨by rfl, ?_⟩) (by assumption) ?_
                        rotate_left
                        · intro w hSw; (try dsimp only at hSw); go_simp; (try with_reducible rfl)
                        (try simp only [List.getElem_toArray, List.getElem_cons_succ, List.getElem_cons_zero, Act.put, List.setIfInBounds_toArray, List.set_cons_zero, List.set_cons_succ])
                        refine wpAnyH_done (by kernel_rfl) ?_ _
                        refine NoPanic.normal ?_
                        clear hHeld
                        go_wp2_with fail
                        go_roundw
                        case rel => exact ⟨i + 1, xd, t, m, am, cm, a1, a2, c1, c2, K + 1, _, _, _, by omega, rfl, rfl, rfl, by go_num, by omega, HLp.out⟩
                        case measure => simp [intOf]; omega
                      · rw [if_pos (by rfl)]
                        refine wp_buildSlice_eq 28 1 #[(0, .tmp 161)] rfl #[(0, .agg (m.row am cm).toArray)] (by kernel_rfl) _ (build_node m am cm hn32.out _) ?_
                        have hBn := on_alloc (Below.refl wp.heap.size wp) (.cells (m.row am cm).toArray 30)
                        have hSn := Sl.made wp 30 41 1 1 (m.row am cm).toArray (0, 0) (m.row am cm) (List.toList_toArray ..) (by rw [n41.out]) (by omega)
                        generalize wp.alloc (.cells (m.row am cm).toArray 30) = wn at hBn hSn ⊢
                        obtain ⟨gn, hgn⟩ : ∃ g, g = wp.heap.size := ⟨_, rfl⟩
                        have Hgnw := Lib.hid (show wh.drew.heap.size ≤ gn by rw [hgn]; exact HBp.out.size)
                        rw [← hgn] at hSn ⊢
                        clear hgn
                        have HBn := Lib.hid hBn
                        have HSn := Lib.hid hSn
                        have HMn := Lib.hid (rangeAt_kept HMp.out (Upd.below hBn (fun _ => False)) id)
                        clear hBn hSn
                        refine hKK.out _ _ HMn.out (fun hHeld => ?_)
                        clear hKK KK
                        (try simp only [List.getElem_toArray, List.getElem_cons_succ, List.getElem_cons_zero, Act.put, List.setIfInBounds_toArray, List.set_cons_zero, List.set_cons_succ])
                        have HB2 := Lib.hid (HBp.out.trans (HBn.out.mono HBp.out.size))
                        refine wpAnyH_ready (rs := [3]) (by kernel_rfl) (by simp) ?_
                        refine AllReadyH.cons rfl (fun KK hKK => ?_) AllReadyH.nil
                        refine step_append_any rfl (.tmp 156) (.tmp 158) 89 rfl 55 ip0 (.pointer none) 1 8 Try.underlying89 hip hip0 hip1 hip2 rfl (by decide) (.slice ao K co) K (ptrs ps) (.slice (some ⟨gp, 0, none⟩) 1 1) 1 [.pointer (some ⟨t, 0, none⟩)] rfl rfl (HD.out.old.kept (Upd.below HB2.out (fun _ => False)) (fun _ _ => id)) (HSp.out.kept (Upd.below HBn.out (fun _ => False)) (fun _ _ _ => id)) (by intro u hu; simp at hu; rw [hu]; rfl) (by omega) (by omega) ?_
                        intro a1 c1 wq ho hg hn
                        have uq : Upd (fun b => (Value.slice ao K co).ownBlock = some b) wn wq := Upd.grown (Upd.refl _ wn) hg (fun b hb _ => hb)
                        have HMq := Lib.hid (rangeAt_kept HMn.out uq HD.out.sepo.2)
                        have Hap := Lib.hid (And.intro ho (And.intro hg hn))
                        have Huq := Lib.hid uq
                        clear ho hg hn uq
                        refine hKK.out _ _ HMq.out (fun hHeld => ?_)
                        clear hKK KK
                        (try simp only [List.getElem_toArray, List.getElem_cons_succ, List.getElem_cons_zero, Act.put, List.setIfInBounds_toArray, List.set_cons_zero, List.set_cons_succ])
                        refine wpAnyH_ready (rs := [7]) (by kernel_rfl) (by simp) ?_
                        refine AllReadyH.cons rfl (fun KK hKK => ?_) AllReadyH.nil
                        refine step_append_any rfl (.tmp 160) (.tmp 162) 28 rfl 30 i0 _ 41 128 Try.underlying28 hi0 hz0 hz1 hz2 rfl (by decide) (.slice aw K cw) K (rowsOf ws al) (.slice (some ⟨gn, 0, none⟩) 1 1) 1 (m.row am cm) rfl rfl ((HD.out.was.kept (Upd.below HB2.out (fun _ => False)) (fun _ _ => id)).kept Huq.out (fun b hb e => HD.out.old.parted HD.out.was (by decide) b e hb)) (HSn.out.kept Huq.out (fun b hb _ e => by have h1 := HD.out.old.lt e; have h2 := Hgnw.out; simp [Value.ownBlock] at hb; omega)) (nrow_one _ _ _ _ _ _) (by omega) (by omega) ?_
                        intro a2 c2 wz ho2 hg2 hn2
                        have HLp := Lib.hid (HD.out.push HB2.out Hap.out.1 Hap.out.2.1 Hap.out.2.2 (Below.refl _ _) ho2 hg2 hn2)
                        have HMz := Lib.hid (rangeAt_row HLp.out.row)
                        clear ho2 hg2 hn2 Hap
                        refine hKK.out _ _ HMz.out (fun hHeld => ?_)
                        clear hKK KK
                        (try simp only [List.getElem_toArray, List.getElem_cons_succ, List.getElem_cons_zero, Act.put, List.setIfInBounds_toArray, List.set_cons_zero, List.set_cons_succ])
                        refine wpAnyH_take (i := 8) (v := ?_) rfl (by kernel_rfl) (by kernel_rfl) (by kernel_rfl) (fun _ _ _ h => h) (Or.inl ⟨by rfl, ?_⟩) (by assumption) ?_
                        rotate_left
                        · intro w hSw; (try dsimp only at hSw); go_simp; (try with_reducible rfl)
                        (try simp only [List.getElem_toArray, List.getElem_cons_succ, List.getElem_cons_zero, Act.put, List.setIfInBounds_toArray, List.set_cons_zero, List.set_cons_succ])
                        refine wpAnyH_take (i := 9) (v := ?_) rfl (by kernel_rfl) (by kernel_rfl) (by kernel_rfl) (fun _ _ _ h => h) (Or.inl ⟨by rfl, ?_⟩) (by assumption) ?_
                        rotate_left
                        · intro w hSw; (try dsimp only at hSw); go_simp; (try with_reducible rfl)
                        (try simp only [List.getElem_toArray, List.getElem_cons_succ, List.getElem_cons_zero, Act.put, List.setIfInBounds_toArray, List.set_cons_zero, List.set_cons_succ])
                        refine wpAnyH_done (by kernel_rfl) ?_ _
                        refine NoPanic.normal ?_
                        clear hHeld
                        go_wp2_with fail
                        go_roundw
                        case rel => exact ⟨i + 1, xd, t, m, am, cm, a1, a2, c1, c2, K + 1, _, _, _, by omega, rfl, rfl, rfl, by go_num, by omega, HLp.out⟩
                        case measure => simp [intOf]; omega
                    · rw [if_pos (by rfl)]
                      refine wp_buildSlice_eq 28 1 #[(0, .tmp 161)] rfl #[(0, .agg (m.row am cm).toArray)] (by kernel_rfl) _ (build_node m am cm hn32.out _) ?_
                      have hBn := on_alloc (Below.refl wh.drew.heap.size wh.drew) (.cells (m.row am cm).toArray 30)
                      have hSn := Sl.made wh.drew 30 41 1 1 (m.row am cm).toArray (0, 0) (m.row am cm) (List.toList_toArray ..) (by rw [n41.out]) (by omega)
                      generalize wh.drew.alloc (.cells (m.row am cm).toArray 30) = wn at hBn hSn ⊢
                      obtain ⟨gn, hgn⟩ : ∃ g, g = wh.drew.heap.size := ⟨_, rfl⟩
                      have Hgnw := Lib.hid (show wh.drew.heap.size ≤ gn by rw [hgn]; exact (Nat.le_refl _))
                      rw [← hgn] at hSn ⊢
                      clear hgn
                      have HBn := Lib.hid hBn
                      have HSn := Lib.hid hSn
                      have HMn := Lib.hid (rangeAt_kept HM0.out (Upd.below hBn (fun _ => False)) id)
                      clear hBn hSn
                      refine hKK.out _ _ HMn.out (fun hHeld => ?_)
                      clear hKK KK
                      (try simp only [List.getElem_toArray, List.getElem_cons_succ, List.getElem_cons_zero, Act.put, List.setIfInBounds_toArray, List.set_cons_zero, List.set_cons_succ])
                      refine wpAnyH_ready (rs := [2]) (by kernel_rfl) (by simp) ?_
                      refine AllReadyH.cons rfl (fun KK hKK => ?_) AllReadyH.nil
                      rw [if_pos (by rfl)]
                      refine wp_buildSlice_eq 89 1 #[(0, .tmp 157)] rfl #[(0, .pointer (some ⟨t, 0, none⟩))] (by kernel_rfl) _ (build_ptrL t _) ?_
                      have hBp := on_alloc (Below.refl wn.heap.size wn) (.cells #[.pointer (some ⟨t, 0, none⟩)] 55)
                      have hSp := Sl.made wn 55 1 1 1 #[.pointer (some ⟨t, 0, none⟩)] (0, 0) [.pointer (some ⟨t, 0, none⟩)] rfl rfl (by omega)
                      generalize wn.alloc (.cells #[.pointer (some ⟨t, 0, none⟩)] 55) = wp at hBp hSp ⊢
                      obtain ⟨gp, hgp⟩ : ∃ g, g = wn.heap.size := ⟨_, rfl⟩
                      rw [← hgp] at hSp ⊢
                      clear hgp
                      have HBp := Lib.hid hBp
                      have HSp := Lib.hid hSp
                      have HMp := Lib.hid (rangeAt_kept HMn.out (Upd.below hBp (fun _ => False)) id)
                      clear hBp hSp
                      refine hKK.out _ _ HMp.out (fun hHeld => ?_)
                      clear hKK KK
                      (try simp only [List.getElem_toArray, List.getElem_cons_succ, List.getElem_cons_zero, Act.put, List.setIfInBounds_toArray, List.set_cons_zero, List.set_cons_succ])
                      have HB2 := Lib.hid (HBn.out.trans (HBp.out.mono HBn.out.size))
                      refine wpAnyH_ready (rs := [3]) (by kernel_rfl) (by simp) ?_
                      refine AllReadyH.cons rfl (fun KK hKK => ?_) AllReadyH.nil
                      refine step_append_any rfl (.tmp 156) (.tmp 158) 89 rfl 55 ip0 (.pointer none) 1 8 Try.underlying89 hip hip0 hip1 hip2 rfl (by decide) (.slice ao K co) K (ptrs ps) (.slice (some ⟨gp, 0, none⟩) 1 1) 1 [.pointer (some ⟨t, 0, none⟩)] rfl rfl (HD.out.old.kept (Upd.below HB2.out (fun _ => False)) (fun _ _ => id)) HSp.out (by intro u hu; simp at hu; rw [hu]; rfl) (by omega) (by omega) ?_
                      intro a1 c1 wq ho hg hn
                      have uq : Upd (fun b => (Value.slice ao K co).ownBlock = some b) wp wq := Upd.grown (Upd.refl _ wp) hg (fun b hb _ => hb)
                      have HMq := Lib.hid (rangeAt_kept HMp.out uq HD.out.sepo.2)
                      have Hap := Lib.hid (And.intro ho (And.intro hg hn))
                      have Huq := Lib.hid uq
                      clear ho hg hn uq
                      refine hKK.out _ _ HMq.out (fun hHeld => ?_)
                      clear hKK KK
                      (try simp only [List.getElem_toArray, List.getElem_cons_succ, List.getElem_cons_zero, Act.put, List.setIfInBounds_toArray, List.set_cons_zero, List.set_cons_succ])
                      refine wpAnyH_ready (rs := [7]) (by kernel_rfl) (by simp) ?_
                      refine AllReadyH.cons rfl (fun KK hKK => ?_) AllReadyH.nil
                      refine step_append_any rfl (.tmp 160) (.tmp 162) 28 rfl 30 i0 _ 41 128 Try.underlying28 hi0 hz0 hz1 hz2 rfl (by decide) (.slice aw K cw) K (rowsOf ws al) (.slice (some ⟨gn, 0, none⟩) 1 1) 1 (m.row am cm) rfl rfl ((HD.out.was.kept (Upd.below HB2.out (fun _ => False)) (fun _ _ => id)).kept Huq.out (fun b hb e => HD.out.old.parted HD.out.was (by decide) b e hb)) ((HSn.out.kept (Upd.below HBp.out (fun _ => False)) (fun _ _ _ => id)).kept Huq.out (fun b hb _ e => by have h1 := HD.out.old.lt e; have h2 := Hgnw.out; simp [Value.ownBlock] at hb; omega)) (nrow_one _ _ _ _ _ _) (by omega) (by omega) ?_
                      intro a2 c2 wz ho2 hg2 hn2
                      have HLp := Lib.hid (HD.out.push HB2.out Hap.out.1 Hap.out.2.1 Hap.out.2.2 (Below.refl _ _) ho2 hg2 hn2)
                      have HMz := Lib.hid (rangeAt_row HLp.out.row)
                      clear ho2 hg2 hn2 Hap
                      refine hKK.out _ _ HMz.out (fun hHeld => ?_)
                      clear hKK KK
                      (try simp only [List.getElem_toArray, List.getElem_cons_succ, List.getElem_cons_zero, Act.put, List.setIfInBounds_toArray, List.set_cons_zero, List.set_cons_succ])
                      refine wpAnyH_take (i := 8) (v := ?_) rfl (by kernel_rfl) (by kernel_rfl) (by kernel_rfl) (fun _ _ _ h => h) (Or.inl ⟨by rfl, ?_⟩) (by assumption) ?_
                      rotate_left
                      · intro w hSw; (try dsimp only at hSw); go_simp; (try with_reducible rfl)
                      (try simp only [List.getElem_toArray, List.getElem_cons_succ, List.getElem_cons_zero, Act.put, List.setIfInBounds_toArray, List.set_cons_zero, List.set_cons_succ])
                      refine wpAnyH_take (i := 9) (v := ?_) rfl (by kernel_rfl) (by kernel_rfl) (by kernel_rfl) (fun _ _ _ h => h) (Or.inl ⟨by rfl, ?_⟩) (by assumption) ?_
                      rotate_left
                      · intro w hSw; (try dsimp only at hSw); go_simp; (try with_reducible rfl)
                      (try simp only [List.getElem_toArray, List.getElem_cons_succ, List.getElem_cons_zero, Act.put, List.setIfInBounds_toArray, List.set_cons_zero, List.set_cons_succ])
                      refine wpAnyH_done (by kernel_rfl) ?_ _
                      refine NoPanic.normal ?_
                      clear hHeld
                      go_wp2_with fail
                      go_roundw
                      case rel => exact ⟨i + 1, xd, t, m, am, cm, a1, a2, c1, c2, K + 1, _, _, _, by omega, rfl, rfl, rfl, by go_num, by omega, HLp.out⟩
                      case measure => simp [intOf]; omega
                · have e249 : ((rm : Int) == 249) = false := beq_f (by omega)
                  go_wp2_with fail
                  go_roundw
                  case rel => exact ⟨i + 1, xd, t, m, am, cm, ao, aw, co, cw, K, ps, ws, al, by omega, rfl, rfl, rfl, by go_num, by omega, HL.out⟩
                  case measure => simp [intOf]; omega
    · have hlti : ¬ ((i : Int) < (r1 : Int)) := by omega
      as_aux_lemma =>
        have HL := Lib.hid Hst.out
        clear Hst
        go_wp2_with fail
        have HD := Lib.hid (HL.out.below (on_drew (Below.refl wr.heap.size wr)))
        have HM0 := Lib.hid (rangeAt_row HD.out.row)
        obtain ⟨dnn, hnn⟩ := HD.out.now.node
        have hn32 := Lib.hid hnn.vwf.1
        have n41 := Lib.hid (row_len (n := m) (a := am) (c := cm) hnn.vwf)
        have infn : (Try.prog.info? 30).map (·.size) = some (m.row am cm).length := by rw [n41.out]; kernel_rfl
        clear hnn
        refine wp_region_noPanic ?_
        refine wp_region_held_drew (S := (fun w' => w'.rangeAt M 0 (m.row am cm))) (by kernel_rfl) HM0.out (fun hHeld => ?_)
        refine wpAnyH_take (i := 0) (v := ?_) rfl (by kernel_rfl) (by kernel_rfl) (by kernel_rfl) (fun _ _ _ h => h) (Or.inl ⟨by rfl, ?_⟩) (by assumption) ?_
        rotate_left
        · intro w hSw; (try dsimp only at hSw); go_simp; (try with_reducible rfl)
        (try simp only [List.getElem_toArray, List.getElem_cons_succ, List.getElem_cons_zero, Act.put, List.setIfInBounds_toArray, List.set_cons_zero, List.set_cons_succ])
        refine wpAnyH_take (i := 1) (v := ?_) rfl (by kernel_rfl) (by kernel_rfl) (by kernel_rfl) (fun _ _ _ h => h) (Or.inl ⟨by rfl, ?_⟩) (by assumption) ?_
        rotate_left
        · intro w hSw; (try dsimp only at hSw); go_simp; (try with_reducible rfl)
        (try simp only [List.getElem_toArray, List.getElem_cons_succ, List.getElem_cons_zero, Act.put, List.setIfInBounds_toArray, List.set_cons_zero, List.set_cons_succ])
        refine wpAnyH_take (i := 4) (v := ?_) rfl (by kernel_rfl) (by kernel_rfl) (by kernel_rfl) (fun _ _ _ h => h) (Or.inl ⟨by rfl, ?_⟩) (by assumption) ?_
        rotate_left
        · intro w hSw; (try dsimp only at hSw); go_simp; (try with_reducible rfl)
        (try simp only [List.getElem_toArray, List.getElem_cons_succ, List.getElem_cons_zero, Act.put, List.setIfInBounds_toArray, List.set_cons_zero, List.set_cons_succ])
        refine wpAnyH_take (i := 5) (v := _) rfl (by kernel_rfl) (by kernel_rfl) (by kernel_rfl) (fun _ _ _ h => h) (yieldsIf_load_mid (by rfl) 30 (.tmp 10) rfl M 0 rfl (m.row am cm) _ (fun w hSw => hSw) und41 rfl infn) (by assumption) ?_
        (try simp only [List.getElem_toArray, List.getElem_cons_succ, List.getElem_cons_zero, Act.put, List.setIfInBounds_toArray, List.set_cons_zero, List.set_cons_succ])
        refine wpAnyH_ready (rs := [2, 6]) (by kernel_rfl) (by simp) ?_
        refine AllReadyH.cons rfl (fun KK hKK => ?_) (AllReadyH.cons rfl (fun KK hKK => ?_) AllReadyH.nil)
        · rw [if_pos (by rfl)]
          refine wp_buildSlice_eq 89 1 #[(0, .tmp 165)] rfl #[(0, .pointer (some ⟨t, 0, none⟩))] (by kernel_rfl) _ (build_ptrL t _) ?_
          have hBp := on_alloc (Below.refl wr.drew.heap.size wr.drew) (.cells #[.pointer (some ⟨t, 0, none⟩)] 55)
          have hSp := Sl.made wr.drew 55 1 1 1 #[.pointer (some ⟨t, 0, none⟩)] (0, 0) [.pointer (some ⟨t, 0, none⟩)] rfl rfl (by omega)
          generalize wr.drew.alloc (.cells #[.pointer (some ⟨t, 0, none⟩)] 55) = wp at hBp hSp ⊢
          obtain ⟨gp, hgp⟩ : ∃ g, g = wr.drew.heap.size := ⟨_, rfl⟩
          rw [← hgp] at hSp ⊢
          clear hgp
          have HBp := Lib.hid hBp
          have HSp := Lib.hid hSp
          have HMp := Lib.hid (rangeAt_kept HM0.out (Upd.below hBp (fun _ => False)) id)
          clear hBp hSp
          refine hKK.out _ _ HMp.out (fun hHeld => ?_)
          clear hKK KK
          (try simp only [List.getElem_toArray, List.getElem_cons_succ, List.getElem_cons_zero, Act.put, List.setIfInBounds_toArray, List.set_cons_zero, List.set_cons_succ])
          refine wpAnyH_ready (rs := [3, 6]) (by kernel_rfl) (by simp) ?_
          refine AllReadyH.cons rfl (fun KK hKK => ?_) (AllReadyH.cons rfl (fun KK hKK => ?_) AllReadyH.nil)
          · refine step_append_any rfl (.tmp 164) (.tmp 166) 89 rfl 55 ip0 (.pointer none) 1 8 Try.underlying89 hip hip0 hip1 hip2 rfl (by decide) (.slice ao K co) K (ptrs ps) (.slice (some ⟨gp, 0, none⟩) 1 1) 1 [.pointer (some ⟨t, 0, none⟩)] rfl rfl (HD.out.old.kept (Upd.below HBp.out (fun _ => False)) (fun _ _ => id)) HSp.out (by intro u hu; simp at hu; rw [hu]; rfl) (by omega) (by omega) ?_
            intro a1 c1 wq ho hg hn
            have uq : Upd (fun b => (Value.slice ao K co).ownBlock = some b) wp wq := Upd.grown (Upd.refl _ wp) hg (fun b hb _ => hb)
            have HMq := Lib.hid (rangeAt_kept HMp.out uq HD.out.sepo.2)
            have Hap := Lib.hid (And.intro ho (And.intro hg hn))
            have Huq := Lib.hid uq
            clear ho hg hn uq
            refine hKK.out _ _ HMq.out (fun hHeld => ?_)
            clear hKK KK
            (try simp only [List.getElem_toArray, List.getElem_cons_succ, List.getElem_cons_zero, Act.put, List.setIfInBounds_toArray, List.set_cons_zero, List.set_cons_succ])
            refine wpAnyH_ready (rs := [6]) (by kernel_rfl) (by simp) ?_
            refine AllReadyH.cons rfl (fun KK hKK => ?_) AllReadyH.nil
            rw [if_pos (by rfl)]
            refine wp_buildSlice_eq 28 1 #[(0, .tmp 169)] rfl #[(0, .agg (m.row am cm).toArray)] (by kernel_rfl) _ (build_node m am cm hn32.out _) ?_
            have hBn := on_alloc (Below.refl wq.heap.size wq) (.cells (m.row am cm).toArray 30)
            have hSn := Sl.made wq 30 41 1 1 (m.row am cm).toArray (0, 0) (m.row am cm) (List.toList_toArray ..) (by rw [n41.out]) (by omega)
            generalize wq.alloc (.cells (m.row am cm).toArray 30) = wn at hBn hSn ⊢
            obtain ⟨gn, hgn⟩ : ∃ g, g = wq.heap.size := ⟨_, rfl⟩
            have Hgnw := Lib.hid (show wr.drew.heap.size ≤ gn by rw [hgn]; exact (Nat.le_trans HBp.out.size Huq.out.size))
            rw [← hgn] at hSn ⊢
            clear hgn
            have HBn := Lib.hid hBn
            have HSn := Lib.hid hSn
            have HMn := Lib.hid (rangeAt_kept HMq.out (Upd.below hBn (fun _ => False)) id)
            clear hBn hSn
            refine hKK.out _ _ HMn.out (fun hHeld => ?_)
            clear hKK KK
            (try simp only [List.getElem_toArray, List.getElem_cons_succ, List.getElem_cons_zero, Act.put, List.setIfInBounds_toArray, List.set_cons_zero, List.set_cons_succ])
            refine wpAnyH_ready (rs := [7]) (by kernel_rfl) (by simp) ?_
            refine AllReadyH.cons rfl (fun KK hKK => ?_) AllReadyH.nil
            refine step_append_any rfl (.tmp 168) (.tmp 170) 28 rfl 30 i0 _ 41 128 Try.underlying28 hi0 hz0 hz1 hz2 rfl (by decide) (.slice aw K cw) K (rowsOf ws al) (.slice (some ⟨gn, 0, none⟩) 1 1) 1 (m.row am cm) rfl rfl (((HD.out.was.kept (Upd.below HBp.out (fun _ => False)) (fun _ _ => id)).kept Huq.out (fun b hb e => HD.out.old.parted HD.out.was (by decide) b e hb)).kept (Upd.below HBn.out (fun _ => False)) (fun _ _ => id)) HSn.out (nrow_one _ _ _ _ _ _) (by omega) (by omega) ?_
            intro a2 c2 wz ho2 hg2 hn2
            have HLp := Lib.hid (HD.out.push HBp.out Hap.out.1 Hap.out.2.1 Hap.out.2.2 HBn.out ho2 hg2 hn2)
            have HMz := Lib.hid (rangeAt_row HLp.out.row)
            clear ho2 hg2 hn2 Hap
            refine hKK.out _ _ HMz.out (fun hHeld => ?_)
            clear hKK KK
            (try simp only [List.getElem_toArray, List.getElem_cons_succ, List.getElem_cons_zero, Act.put, List.setIfInBounds_toArray, List.set_cons_zero, List.set_cons_succ])
            refine wpAnyH_take (i := 8) (v := ?_) rfl (by kernel_rfl) (by kernel_rfl) (by kernel_rfl) (fun _ _ _ h => h) (Or.inl ⟨by rfl, ?_⟩) (by assumption) ?_
            rotate_left
            · intro w hSw; (try dsimp only at hSw); go_simp; (try with_reducible rfl)
            (try simp only [List.getElem_toArray, List.getElem_cons_succ, List.getElem_cons_zero, Act.put, List.setIfInBounds_toArray, List.set_cons_zero, List.set_cons_succ])
            refine wpAnyH_take (i := 9) (v := ?_) rfl (by kernel_rfl) (by kernel_rfl) (by kernel_rfl) (fun _ _ _ h => h) (Or.inl ⟨by rfl, ?_⟩) (by assumption) ?_
            rotate_left
            · intro w hSw; (try dsimp only at hSw); go_simp; (try with_reducible rfl)
            (try simp only [List.getElem_toArray, List.getElem_cons_succ, List.getElem_cons_zero, Act.put, List.setIfInBounds_toArray, List.set_cons_zero, List.set_cons_succ])
            refine wpAnyH_done (by kernel_rfl) ?_ _
            refine NoPanic.normal ?_
            clear hHeld
            have hlow := HLp.out.low
            obtain ⟨KN, hKN⟩ : ∃ k, k = K + 1 := ⟨_, rfl⟩
            have hle := HLp.out
            rw [← hKN] at hle
            have HLq := Lib.hid hle
            clear hle HLp HD Huq
            go_wp2_with fail
            rw [← hKN]
            have hKN9 : KN ≤ 1501 := by omega
            clear hKN
            go_loopw [25] (fun iv wr => ∃ j : Nat, j ≤ KN ∧ iv = .int .i64 j ∧ Below wz.heap.size wz wr) (fun iv _ => KN - (intOf iv).toNat)
            case atStart => exact ⟨0, Nat.zero_le _, rfl, Below.refl _ _⟩
            case round =>
              obtain ⟨j, hj, rfl, hbe⟩ := hrel
              have Hbe := Lib.hid hbe
              clear hbe
              by_cases hlt : j < KN
              · obtain ⟨pj, nj, aj, cj, g, o, g', o', e1, e2, hc, hr, hvw, hold⟩ := HLq.out.look j hlt
                obtain ⟨dj, htj⟩ := hold.tree
                obtain ⟨ej, hnj⟩ := hold.node
                have hal := alike_trueL (fun b => b < wr.heap.size) _ ej dj wr.drew pj nj aj cj (((hnj.below Hbe.out).mono (fun b _ hl => hl)).below (on_drew (Below.refl _ _))) (fun b hb => hb) ((htj.below Hbe.out).below (on_drew (Below.refl _ _))) hold.parts
                have Hal := Lib.hid hal
                have hcy : wr.cell? ⟨g, o + j, none⟩ = some (.pointer (some ⟨pj, 0, none⟩)) := (Hbe.out.cell (World.block_lt_of_cell? wz _ hc)).trans hc
                have hry : wr.rangeAt g' (o' + j * 41) (nj.row aj cj) := rangeAt_kept hr (Upd.below Hbe.out (fun _ => False)) id
                have HSy := Lib.hid (show wr.drew.cell? ⟨g, o + j, none⟩ = some (.pointer (some ⟨pj, 0, none⟩)) ∧ wr.drew.rangeAt g' (o' + j * 41) (nj.row aj cj) from ⟨hcy, hry⟩)
                have j41 := Lib.hid (row_len (a := aj) (c := cj) hvw)
                have infj : (Try.prog.info? 30).map (·.size) = some (nj.row aj cj).length := by rw [j41.out]; kernel_rfl
                have i1 : (0 : Int) ≤ (j : Int) := by omega
                have i2 : (j : Int) < (KN : Int) := by omega
                subst e1 e2
                clear hc hr hold htj hnj hal hcy hry
                go_wp2_with fail
                refine wp_region_noPanic ?_
                refine wp_region_held_drew (S := (fun w' => w'.cell? ⟨g, o + j, none⟩ = some (.pointer (some ⟨pj, 0, none⟩)) ∧ w'.rangeAt g' (o' + j * 41) (nj.row aj cj))) (by kernel_rfl) HSy.out (fun hHeld => ?_)
                refine wpAnyH_take (i := 0) (v := ?_) rfl (by kernel_rfl) (by kernel_rfl) (by kernel_rfl) (fun _ _ _ h => h) (Or.inl ⟨by rfl, ?_⟩) (by assumption) ?_
                rotate_left
                · intro w hSw; (try dsimp only at hSw); go_simp; (try with_reducible rfl)
                (try simp only [List.getElem_toArray, List.getElem_cons_succ, List.getElem_cons_zero, Act.put, List.setIfInBounds_toArray, List.set_cons_zero, List.set_cons_succ])
                refine wpAnyH_take (i := 1) (v := ?_) rfl (by kernel_rfl) (by kernel_rfl) (by kernel_rfl) (fun _ _ _ h => h) (Or.inl ⟨by rfl, ?_⟩) (by assumption) ?_
                rotate_left
                · intro w hSw; (try dsimp only at hSw); go_simp; (try with_reducible rfl)
                (try simp only [List.getElem_toArray, List.getElem_cons_succ, List.getElem_cons_zero, Act.put, List.setIfInBounds_toArray, List.set_cons_zero, List.set_cons_succ])
                refine wpAnyH_take (i := 2) (v := ?_) rfl (by kernel_rfl) (by kernel_rfl) (by kernel_rfl) (fun _ _ _ h => h) (Or.inl ⟨by rfl, ?_⟩) (by assumption) ?_
                rotate_left
                · intro w hSw; (try dsimp only at hSw); go_simp; (try with_reducible rfl)
                (try simp only [List.getElem_toArray, List.getElem_cons_succ, List.getElem_cons_zero, Act.put, List.setIfInBounds_toArray, List.set_cons_zero, List.set_cons_succ])
                refine wpAnyH_take (i := 3) (v := ?_) rfl (by kernel_rfl) (by kernel_rfl) (by kernel_rfl) (fun _ _ _ h => h) (Or.inl ⟨by rfl, ?_⟩) (by assumption) ?_
                rotate_left
                · intro w hSw; (try dsimp only at hSw); go_simp; (try with_reducible rfl)
                (try simp only [List.getElem_toArray, List.getElem_cons_succ, List.getElem_cons_zero, Act.put, List.setIfInBounds_toArray, List.set_cons_zero, List.set_cons_succ])
                refine wpAnyH_take (i := 4) (v := ?_) rfl (by kernel_rfl) (by kernel_rfl) (by kernel_rfl) (fun _ _ _ h => h) (Or.inl ⟨by rfl, ?_⟩) (by assumption) ?_
                rotate_left
                · intro w hSw; (try dsimp only at hSw); go_simp; (try with_reducible rfl)
                (try simp only [List.getElem_toArray, List.getElem_cons_succ, List.getElem_cons_zero, Act.put, List.setIfInBounds_toArray, List.set_cons_zero, List.set_cons_succ])
                refine wpAnyH_take (i := 5) (v := ?_) rfl (by kernel_rfl) (by kernel_rfl) (by kernel_rfl) (fun _ _ _ h => h) (Or.inl ⟨by rfl, ?_⟩) (by assumption) ?_
                rotate_left
                · intro w hSw; (try dsimp only at hSw); go_simp; (try with_reducible rfl)
                (try simp only [List.getElem_toArray, List.getElem_cons_succ, List.getElem_cons_zero, Act.put, List.setIfInBounds_toArray, List.set_cons_zero, List.set_cons_succ])
                refine wpAnyH_take (i := 6) (v := ?_) rfl (by kernel_rfl) (by kernel_rfl) (by kernel_rfl) (fun _ _ _ h => h) (Or.inl ⟨by rfl, ?_⟩) (by assumption) ?_
                rotate_left
                · intro w hSw; (try dsimp only at hSw); go_simp; (try with_reducible rfl)
                (try simp only [List.getElem_toArray, List.getElem_cons_succ, List.getElem_cons_zero, Act.put, List.setIfInBounds_toArray, List.set_cons_zero, List.set_cons_succ])
                refine wpAnyH_take (i := 7) (v := _) rfl (by kernel_rfl) (by kernel_rfl) (by kernel_rfl) (fun _ _ _ h => h) (yieldsIf_load_mid (by rfl) 30 (.tmp 184) rfl g' (o' + j * 41) rfl (nj.row aj cj) _ (fun w hSw => hSw.2) und41 rfl infj) (by assumption) ?_
                (try simp only [List.getElem_toArray, List.getElem_cons_succ, List.getElem_cons_zero, Act.put, List.setIfInBounds_toArray, List.set_cons_zero, List.set_cons_succ])
                refine wpAnyH_ready (rs := [8]) (by kernel_rfl) (by simp) ?_
                refine AllReadyH.cons rfl (fun KK hKK => ?_) AllReadyH.nil
                go_simp
                refine Hal.out.mono ?_
                rintro e8 w8 ⟨rfl, hb8⟩
                have hb8' : Below wr.heap.size wr w8 := below_on (on_drew (Below.refl wr.heap.size wr)) hb8
                have Hbe8 := Lib.hid (Hbe.out.trans (hb8'.mono Hbe.out.size))
                have HS8 := Lib.hid (show w8.cell? ⟨g, o + j, none⟩ = some (.pointer (some ⟨pj, 0, none⟩)) ∧ w8.rangeAt g' (o' + j * 41) (nj.row aj cj) from ⟨(hb8.cell (World.block_lt_of_cell? _ _ HSy.out.1)).trans HSy.out.1, rangeAt_kept HSy.out.2 (Upd.below hb8 (fun _ => False)) id⟩)
                clear hb8 hb8'
                (try go_wp2_with fail)
                refine hKK.out _ _ HS8.out (fun hHeld => ?_)
                clear hKK KK
                (try simp only [List.getElem_toArray, List.getElem_cons_succ, List.getElem_cons_zero, Act.put, List.setIfInBounds_toArray, List.set_cons_zero, List.set_cons_succ])
                refine wpAnyH_take (i := 9) (v := ?_) rfl (by kernel_rfl) (by kernel_rfl) (by kernel_rfl) (fun _ _ _ h => h) (Or.inl ⟨by rfl, ?_⟩) (by assumption) ?_
                rotate_left
                · intro w hSw; (try dsimp only at hSw); go_simp; (try with_reducible rfl)
                (try simp only [List.getElem_toArray, List.getElem_cons_succ, List.getElem_cons_zero, Act.put, List.setIfInBounds_toArray, List.set_cons_zero, List.set_cons_succ])
                refine wpAnyH_done (by kernel_rfl) ?_ _
                refine NoPanic.normal ?_
                clear hHeld
                go_wp2_with fail
                go_roundw
                case rel => exact ⟨j + 1, hlt, by go_num, Hbe8.out⟩
                case measure => simp [intOf]; omega
              · have hlt2 : ¬ ((j : Int) < (KN : Int)) := by omega
                go_wp2
                go_ret
                exact ⟨rfl, below_on hlow Hbe.out⟩
          · rw [if_pos (by rfl)]
            refine wp_buildSlice_eq 28 1 #[(0, .tmp 169)] rfl #[(0, .agg (m.row am cm).toArray)] (by kernel_rfl) _ (build_node m am cm hn32.out _) ?_
            have hBn := on_alloc (Below.refl wp.heap.size wp) (.cells (m.row am cm).toArray 30)
            have hSn := Sl.made wp 30 41 1 1 (m.row am cm).toArray (0, 0) (m.row am cm) (List.toList_toArray ..) (by rw [n41.out]) (by omega)
            generalize wp.alloc (.cells (m.row am cm).toArray 30) = wn at hBn hSn ⊢
            obtain ⟨gn, hgn⟩ : ∃ g, g = wp.heap.size := ⟨_, rfl⟩
            have Hgnw := Lib.hid (show wr.drew.heap.size ≤ gn by rw [hgn]; exact HBp.out.size)
            rw [← hgn] at hSn ⊢
            clear hgn
            have HBn := Lib.hid hBn
            have HSn := Lib.hid hSn
            have HMn := Lib.hid (rangeAt_kept HMp.out (Upd.below hBn (fun _ => False)) id)
            clear hBn hSn
            refine hKK.out _ _ HMn.out (fun hHeld => ?_)
            clear hKK KK
            (try simp only [List.getElem_toArray, List.getElem_cons_succ, List.getElem_cons_zero, Act.put, List.setIfInBounds_toArray, List.set_cons_zero, List.set_cons_succ])
            have HB2 := Lib.hid (HBp.out.trans (HBn.out.mono HBp.out.size))
            refine wpAnyH_ready (rs := [3]) (by kernel_rfl) (by simp) ?_
            refine AllReadyH.cons rfl (fun KK hKK => ?_) AllReadyH.nil
            refine step_append_any rfl (.tmp 164) (.tmp 166) 89 rfl 55 ip0 (.pointer none) 1 8 Try.underlying89 hip hip0 hip1 hip2 rfl (by decide) (.slice ao K co) K (ptrs ps) (.slice (some ⟨gp, 0, none⟩) 1 1) 1 [.pointer (some ⟨t, 0, none⟩)] rfl rfl (HD.out.old.kept (Upd.below HB2.out (fun _ => False)) (fun _ _ => id)) (HSp.out.kept (Upd.below HBn.out (fun _ => False)) (fun _ _ _ => id)) (by intro u hu; simp at hu; rw [hu]; rfl) (by omega) (by omega) ?_
            intro a1 c1 wq ho hg hn
            have uq : Upd (fun b => (Value.slice ao K co).ownBlock = some b) wn wq := Upd.grown (Upd.refl _ wn) hg (fun b hb _ => hb)
            have HMq := Lib.hid (rangeAt_kept HMn.out uq HD.out.sepo.2)
            have Hap := Lib.hid (And.intro ho (And.intro hg hn))
            have Huq := Lib.hid uq
            clear ho hg hn uq
            refine hKK.out _ _ HMq.out (fun hHeld => ?_)
            clear hKK KK
            (try simp only [List.getElem_toArray, List.getElem_cons_succ, List.getElem_cons_zero, Act.put, List.setIfInBounds_toArray, List.set_cons_zero, List.set_cons_succ])
            refine wpAnyH_ready (rs := [7]) (by kernel_rfl) (by simp) ?_
            refine AllReadyH.cons rfl (fun KK hKK => ?_) AllReadyH.nil
            refine step_append_any rfl (.tmp 168) (.tmp 170) 28 rfl 30 i0 _ 41 128 Try.underlying28 hi0 hz0 hz1 hz2 rfl (by decide) (.slice aw K cw) K (rowsOf ws al) (.slice (some ⟨gn, 0, none⟩) 1 1) 1 (m.row am cm) rfl rfl ((HD.out.was.kept (Upd.below HB2.out (fun _ => False)) (fun _ _ => id)).kept Huq.out (fun b hb e => HD.out.old.parted HD.out.was (by decide) b e hb)) (HSn.out.kept Huq.out (fun b hb _ e => by have h1 := HD.out.old.lt e; have h2 := Hgnw.out; simp [Value.ownBlock] at hb; omega)) (nrow_one _ _ _ _ _ _) (by omega) (by omega) ?_
            intro a2 c2 wz ho2 hg2 hn2
            have HLp := Lib.hid (HD.out.push HB2.out Hap.out.1 Hap.out.2.1 Hap.out.2.2 (Below.refl _ _) ho2 hg2 hn2)
            have HMz := Lib.hid (rangeAt_row HLp.out.row)
            clear ho2 hg2 hn2 Hap
            refine hKK.out _ _ HMz.out (fun hHeld => ?_)
            clear hKK KK
            (try simp only [List.getElem_toArray, List.getElem_cons_succ, List.getElem_cons_zero, Act.put, List.setIfInBounds_toArray, List.set_cons_zero, List.set_cons_succ])
            refine wpAnyH_take (i := 8) (v := ?_) rfl (by kernel_rfl) (by kernel_rfl) (by kernel_rfl) (fun _ _ _ h => h) (Or.inl ⟨by rfl, ?_⟩) (by assumption) ?_
            rotate_left
            · intro w hSw; (try dsimp only at hSw); go_simp; (try with_reducible rfl)
            (try simp only [List.getElem_toArray, List.getElem_cons_succ, List.getElem_cons_zero, Act.put, List.setIfInBounds_toArray, List.set_cons_zero, List.set_cons_succ])
            refine wpAnyH_take (i := 9) (v := ?_) rfl (by kernel_rfl) (by kernel_rfl) (by kernel_rfl) (fun _ _ _ h => h) (Or.inl ⟨by rfl, ?_⟩) (by assumption) ?_
            rotate_left
            · intro w hSw; (try dsimp only at hSw); go_simp; (try with_reducible rfl)
            (try simp only [List.getElem_toArray, List.getElem_cons_succ, List.getElem_cons_zero, Act.put, List.setIfInBounds_toArray, List.set_cons_zero, List.set_cons_succ])
            refine wpAnyH_done (by kernel_rfl) ?_ _
            refine NoPanic.normal ?_
            clear hHeld
            have hlow := HLp.out.low
            obtain ⟨KN, hKN⟩ : ∃ k, k = K + 1 := ⟨_, rfl⟩
            have hle := HLp.out
            rw [← hKN] at hle
            have HLq := Lib.hid hle
            clear hle HLp HD Huq
            go_wp2_with fail
            rw [← hKN]
            have hKN9 : KN ≤ 1501 := by omega
            clear hKN
            go_loopw [25] (fun iv wr => ∃ j : Nat, j ≤ KN ∧ iv = .int .i64 j ∧ Below wz.heap.size wz wr) (fun iv _ => KN - (intOf iv).toNat)
            case atStart => exact ⟨0, Nat.zero_le _, rfl, Below.refl _ _⟩
            case round =>
              obtain ⟨j, hj, rfl, hbe⟩ := hrel
              have Hbe := Lib.hid hbe
              clear hbe
              by_cases hlt : j < KN
              · obtain ⟨pj, nj, aj, cj, g, o, g', o', e1, e2, hc, hr, hvw, hold⟩ := HLq.out.look j hlt
                obtain ⟨dj, htj⟩ := hold.tree
                obtain ⟨ej, hnj⟩ := hold.node
                have hal := alike_trueL (fun b => b < wr.heap.size) _ ej dj wr.drew pj nj aj cj (((hnj.below Hbe.out).mono (fun b _ hl => hl)).below (on_drew (Below.refl _ _))) (fun b hb => hb) ((htj.below Hbe.out).below (on_drew (Below.refl _ _))) hold.parts
                have Hal := Lib.hid hal
                have hcy : wr.cell? ⟨g, o + j, none⟩ = some (.pointer (some ⟨pj, 0, none⟩)) := (Hbe.out.cell (World.block_lt_of_cell? wz _ hc)).trans hc
                have hry : wr.rangeAt g' (o' + j * 41) (nj.row aj cj) := rangeAt_kept hr (Upd.below Hbe.out (fun _ => False)) id
                have HSy := Lib.hid (show wr.drew.cell? ⟨g, o + j, none⟩ = some (.pointer (some ⟨pj, 0, none⟩)) ∧ wr.drew.rangeAt g' (o' + j * 41) (nj.row aj cj) from ⟨hcy, hry⟩)
                have j41 := Lib.hid (row_len (a := aj) (c := cj) hvw)
                have infj : (Try.prog.info? 30).map (·.size) = some (nj.row aj cj).length := by rw [j41.out]; kernel_rfl
                have i1 : (0 : Int) ≤ (j : Int) := by omega
                have i2 : (j : Int) < (KN : Int) := by omega
                subst e1 e2
                clear hc hr hold htj hnj hal hcy hry
                go_wp2_with fail
                refine wp_region_noPanic ?_
                refine wp_region_held_drew (S := (fun w' => w'.cell? ⟨g, o + j, none⟩ = some (.pointer (some ⟨pj, 0, none⟩)) ∧ w'.rangeAt g' (o' + j * 41) (nj.row aj cj))) (by kernel_rfl) HSy.out (fun hHeld => ?_)
                refine wpAnyH_take (i := 0) (v := ?_) rfl (by kernel_rfl) (by kernel_rfl) (by kernel_rfl) (fun _ _ _ h => h) (Or.inl ⟨by rfl, ?_⟩) (by assumption) ?_
                rotate_left
                · intro w hSw; (try dsimp only at hSw); go_simp; (try with_reducible rfl)
                (try simp only [List.getElem_toArray, List.getElem_cons_succ, List.getElem_cons_zero, Act.put, List.setIfInBounds_toArray, List.set_cons_zero, List.set_cons_succ])
                refine wpAnyH_take (i := 1) (v := ?_) rfl (by kernel_rfl) (by kernel_rfl) (by kernel_rfl) (fun _ _ _ h => h) (Or.inl ⟨by rfl, ?_⟩) (by assumption) ?_
                rotate_left
                · intro w hSw; (try dsimp only at hSw); go_simp; (try with_reducible rfl)
                (try simp only [List.getElem_toArray, List.getElem_cons_succ, List.getElem_cons_zero, Act.put, List.setIfInBounds_toArray, List.set_cons_zero, List.set_cons_succ])
                refine wpAnyH_take (i := 2) (v := ?_) rfl (by kernel_rfl) (by kernel_rfl) (by kernel_rfl) (fun _ _ _ h => h) (Or.inl ⟨by rfl, ?_⟩) (by assumption) ?_
                rotate_left
                · intro w hSw; (try dsimp only at hSw); go_simp; (try with_reducible rfl)
                (try simp only [List.getElem_toArray, List.getElem_cons_succ, List.getElem_cons_zero, Act.put, List.setIfInBounds_toArray, List.set_cons_zero, List.set_cons_succ])
                refine wpAnyH_take (i := 3) (v := ?_) rfl (by kernel_rfl) (by kernel_rfl) (by kernel_rfl) (fun _ _ _ h => h) (Or.inl ⟨by rfl, ?_⟩) (by assumption) ?_
                rotate_left
                · intro w hSw; (try dsimp only at hSw); go_simp; (try with_reducible rfl)
                (try simp only [List.getElem_toArray, List.getElem_cons_succ, List.getElem_cons_zero, Act.put, List.setIfInBounds_toArray, List.set_cons_zero, List.set_cons_succ])
                refine wpAnyH_take (i := 4) (v := ?_) rfl (by kernel_rfl) (by kernel_rfl) (by kernel_rfl) (fun _ _ _ h => h) (Or.inl ⟨by rfl, ?_⟩) (by assumption) ?_
                rotate_left
                · intro w hSw; (try dsimp only at hSw); go_simp; (try with_reducible rfl)
                (try simp only [List.getElem_toArray, List.getElem_cons_succ, List.getElem_cons_zero, Act.put, List.setIfInBounds_toArray, List.set_cons_zero, List.set_cons_succ])
                refine wpAnyH_take (i := 5) (v := ?_) rfl (by kernel_rfl) (by kernel_rfl) (by kernel_rfl) (fun _ _ _ h => h) (Or.inl ⟨by rfl, ?_⟩) (by assumption) ?_
                rotate_left
                · intro w hSw; (try dsimp only at hSw); go_simp; (try with_reducible rfl)
                (try simp only [List.getElem_toArray, List.getElem_cons_succ, List.getElem_cons_zero, Act.put, List.setIfInBounds_toArray, List.set_cons_zero, List.set_cons_succ])
                refine wpAnyH_take (i := 6) (v := ?_) rfl (by kernel_rfl) (by kernel_rfl) (by kernel_rfl) (fun _ _ _ h => h) (Or.inl ⟨by rfl, ?_⟩) (by assumption) ?_
                rotate_left
                · intro w hSw; (try dsimp only at hSw); go_simp; (try with_reducible rfl)
                (try simp only [List.getElem_toArray, List.getElem_cons_succ, List.getElem_cons_zero, Act.put, List.setIfInBounds_toArray, List.set_cons_zero, List.set_cons_succ])
                refine wpAnyH_take (i := 7) (v := _) rfl (by kernel_rfl) (by kernel_rfl) (by kernel_rfl) (fun _ _ _ h => h) (yieldsIf_load_mid (by rfl) 30 (.tmp 184) rfl g' (o' + j * 41) rfl (nj.row aj cj) _ (fun w hSw => hSw.2) und41 rfl infj) (by assumption) ?_
                (try simp only [List.getElem_toArray, List.getElem_cons_succ, List.getElem_cons_zero, Act.put, List.setIfInBounds_toArray, List.set_cons_zero, List.set_cons_succ])
                refine wpAnyH_ready (rs := [8]) (by kernel_rfl) (by simp) ?_
                refine AllReadyH.cons rfl (fun KK hKK => ?_) AllReadyH.nil
                go_simp
                refine Hal.out.mono ?_
                rintro e8 w8 ⟨rfl, hb8⟩
                have hb8' : Below wr.heap.size wr w8 := below_on (on_drew (Below.refl wr.heap.size wr)) hb8
                have Hbe8 := Lib.hid (Hbe.out.trans (hb8'.mono Hbe.out.size))
                have HS8 := Lib.hid (show w8.cell? ⟨g, o + j, none⟩ = some (.pointer (some ⟨pj, 0, none⟩)) ∧ w8.rangeAt g' (o' + j * 41) (nj.row aj cj) from ⟨(hb8.cell (World.block_lt_of_cell? _ _ HSy.out.1)).trans HSy.out.1, rangeAt_kept HSy.out.2 (Upd.below hb8 (fun _ => False)) id⟩)
                clear hb8 hb8'
                (try go_wp2_with fail)
                refine hKK.out _ _ HS8.out (fun hHeld => ?_)
                clear hKK KK
                (try simp only [List.getElem_toArray, List.getElem_cons_succ, List.getElem_cons_zero, Act.put, List.setIfInBounds_toArray, List.set_cons_zero, List.set_cons_succ])
                refine wpAnyH_take (i := 9) (v := ?_) rfl (by kernel_rfl) (by kernel_rfl) (by kernel_rfl) (fun _ _ _ h => h) (Or.inl ⟨by rfl, ?_⟩) (by assumption) ?_
                rotate_left
                · intro w hSw; (try dsimp only at hSw); go_simp; (try with_reducible rfl)
                (try simp only [List.getElem_toArray, List.getElem_cons_succ, List.getElem_cons_zero, Act.put, List.setIfInBounds_toArray, List.set_cons_zero, List.set_cons_succ])
                refine wpAnyH_done (by kernel_rfl) ?_ _
                refine NoPanic.normal ?_
                clear hHeld
                go_wp2_with fail
                go_roundw
                case rel => exact ⟨j + 1, hlt, by go_num, Hbe8.out⟩
                case measure => simp [intOf]; omega
              · have hlt2 : ¬ ((j : Int) < (KN : Int)) := by omega
                go_wp2
                go_ret
                exact ⟨rfl, below_on hlow Hbe.out⟩
        · rw [if_pos (by rfl)]
          refine wp_buildSlice_eq 28 1 #[(0, .tmp 169)] rfl #[(0, .agg (m.row am cm).toArray)] (by kernel_rfl) _ (build_node m am cm hn32.out _) ?_
          have hBn := on_alloc (Below.refl wr.drew.heap.size wr.drew) (.cells (m.row am cm).toArray 30)
          have hSn := Sl.made wr.drew 30 41 1 1 (m.row am cm).toArray (0, 0) (m.row am cm) (List.toList_toArray ..) (by rw [n41.out]) (by omega)
          generalize wr.drew.alloc (.cells (m.row am cm).toArray 30) = wn at hBn hSn ⊢
          obtain ⟨gn, hgn⟩ : ∃ g, g = wr.drew.heap.size := ⟨_, rfl⟩
          have Hgnw := Lib.hid (show wr.drew.heap.size ≤ gn by rw [hgn]; exact (Nat.le_refl _))
          rw [← hgn] at hSn ⊢
          clear hgn
          have HBn := Lib.hid hBn
          have HSn := Lib.hid hSn
          have HMn := Lib.hid (rangeAt_kept HM0.out (Upd.below hBn (fun _ => False)) id)
          clear hBn hSn
          refine hKK.out _ _ HMn.out (fun hHeld => ?_)
          clear hKK KK
          (try simp only [List.getElem_toArray, List.getElem_cons_succ, List.getElem_cons_zero, Act.put, List.setIfInBounds_toArray, List.set_cons_zero, List.set_cons_succ])
          refine wpAnyH_ready (rs := [2]) (by kernel_rfl) (by simp) ?_
          refine AllReadyH.cons rfl (fun KK hKK => ?_) AllReadyH.nil
          rw [if_pos (by rfl)]
          refine wp_buildSlice_eq 89 1 #[(0, .tmp 165)] rfl #[(0, .pointer (some ⟨t, 0, none⟩))] (by kernel_rfl) _ (build_ptrL t _) ?_
          have hBp := on_alloc (Below.refl wn.heap.size wn) (.cells #[.pointer (some ⟨t, 0, none⟩)] 55)
          have hSp := Sl.made wn 55 1 1 1 #[.pointer (some ⟨t, 0, none⟩)] (0, 0) [.pointer (some ⟨t, 0, none⟩)] rfl rfl (by omega)
          generalize wn.alloc (.cells #[.pointer (some ⟨t, 0, none⟩)] 55) = wp at hBp hSp ⊢
          obtain ⟨gp, hgp⟩ : ∃ g, g = wn.heap.size := ⟨_, rfl⟩
          rw [← hgp] at hSp ⊢
          clear hgp
          have HBp := Lib.hid hBp
          have HSp := Lib.hid hSp
          have HMp := Lib.hid (rangeAt_kept HMn.out (Upd.below hBp (fun _ => False)) id)
          clear hBp hSp
          refine hKK.out _ _ HMp.out (fun hHeld => ?_)
          clear hKK KK
          (try simp only [List.getElem_toArray, List.getElem_cons_succ, List.getElem_cons_zero, Act.put, List.setIfInBounds_toArray, List.set_cons_zero, List.set_cons_succ])
          have HB2 := Lib.hid (HBn.out.trans (HBp.out.mono HBn.out.size))
          refine wpAnyH_ready (rs := [3]) (by kernel_rfl) (by simp) ?_
          refine AllReadyH.cons rfl (fun KK hKK => ?_) AllReadyH.nil
          refine step_append_any rfl (.tmp 164) (.tmp 166) 89 rfl 55 ip0 (.pointer none) 1 8 Try.underlying89 hip hip0 hip1 hip2 rfl (by decide) (.slice ao K co) K (ptrs ps) (.slice (some ⟨gp, 0, none⟩) 1 1) 1 [.pointer (some ⟨t, 0, none⟩)] rfl rfl (HD.out.old.kept (Upd.below HB2.out (fun _ => False)) (fun _ _ => id)) HSp.out (by intro u hu; simp at hu; rw [hu]; rfl) (by omega) (by omega) ?_
          intro a1 c1 wq ho hg hn
          have uq : Upd (fun b => (Value.slice ao K co).ownBlock = some b) wp wq := Upd.grown (Upd.refl _ wp) hg (fun b hb _ => hb)
          have HMq := Lib.hid (rangeAt_kept HMp.out uq HD.out.sepo.2)
          have Hap := Lib.hid (And.intro ho (And.intro hg hn))
          have Huq := Lib.hid uq
          clear ho hg hn uq
          refine hKK.out _ _ HMq.out (fun hHeld => ?_)
          clear hKK KK
          (try simp only [List.getElem_toArray, List.getElem_cons_succ, List.getElem_cons_zero, Act.put, List.setIfInBounds_toArray, List.set_cons_zero, List.set_cons_succ])
          refine wpAnyH_ready (rs := [7]) (by kernel_rfl) (by simp) ?_
          refine AllReadyH.cons rfl (fun KK hKK => ?_) AllReadyH.nil
          refine step_append_any rfl (.tmp 168) (.tmp 170) 28 rfl 30 i0 _ 41 128 Try.underlying28 hi0 hz0 hz1 hz2 rfl (by decide) (.slice aw K cw) K (rowsOf ws al) (.slice (some ⟨gn, 0, none⟩) 1 1) 1 (m.row am cm) rfl rfl ((HD.out.was.kept (Upd.below HB2.out (fun _ => False)) (fun _ _ => id)).kept Huq.out (fun b hb e => HD.out.old.parted HD.out.was (by decide) b e hb)) ((HSn.out.kept (Upd.below HBp.out (fun _ => False)) (fun _ _ _ => id)).kept Huq.out (fun b hb _ e => by have h1 := HD.out.old.lt e; have h2 := Hgnw.out; simp [Value.ownBlock] at hb; omega)) (nrow_one _ _ _ _ _ _) (by omega) (by omega) ?_
          intro a2 c2 wz ho2 hg2 hn2
          have HLp := Lib.hid (HD.out.push HB2.out Hap.out.1 Hap.out.2.1 Hap.out.2.2 (Below.refl _ _) ho2 hg2 hn2)
          have HMz := Lib.hid (rangeAt_row HLp.out.row)
          clear ho2 hg2 hn2 Hap
          refine hKK.out _ _ HMz.out (fun hHeld => ?_)
          clear hKK KK
          (try simp only [List.getElem_toArray, List.getElem_cons_succ, List.getElem_cons_zero, Act.put, List.setIfInBounds_toArray, List.set_cons_zero, List.set_cons_succ])
          refine wpAnyH_take (i := 8) (v := ?_) rfl (by kernel_rfl) (by kernel_rfl) (by kernel_rfl) (fun _ _ _ h => h) (Or.inl ⟨by rfl, ?_⟩) (by assumption) ?_
          rotate_left
          · intro w hSw; (try dsimp only at hSw); go_simp; (try with_reducible rfl)
          (try simp only [List.getElem_toArray, List.getElem_cons_succ, List.getElem_cons_zero, Act.put, List.setIfInBounds_toArray, List.set_cons_zero, List.set_cons_succ])
          refine wpAnyH_take (i := 9) (v := ?_) rfl (by kernel_rfl) (by kernel_rfl) (by kernel_rfl) (fun _ _ _ h => h) (Or.inl ⟨by rfl, ?_⟩) (by assumption) ?_
          rotate_left
          · intro w hSw; (try dsimp only at hSw); go_simp; (try with_reducible rfl)
          (try simp only [List.getElem_toArray, List.getElem_cons_succ, List.getElem_cons_zero, Act.put, List.setIfInBounds_toArray, List.set_cons_zero, List.set_cons_succ])
          refine wpAnyH_done (by kernel_rfl) ?_ _
          refine NoPanic.normal ?_
          clear hHeld
          have hlow := HLp.out.low
          obtain ⟨KN, hKN⟩ : ∃ k, k = K + 1 := ⟨_, rfl⟩
          have hle := HLp.out
          rw [← hKN] at hle
          have HLq := Lib.hid hle
          clear hle HLp HD Huq
          go_wp2_with fail
          rw [← hKN]
          have hKN9 : KN ≤ 1501 := by omega
          clear hKN
          go_loopw [25] (fun iv wr => ∃ j : Nat, j ≤ KN ∧ iv = .int .i64 j ∧ Below wz.heap.size wz wr) (fun iv _ => KN - (intOf iv).toNat)
          case atStart => exact ⟨0, Nat.zero_le _, rfl, Below.refl _ _⟩
          case round =>
            obtain ⟨j, hj, rfl, hbe⟩ := hrel
            have Hbe := Lib.hid hbe
            clear hbe
            by_cases hlt : j < KN
            · obtain ⟨pj, nj, aj, cj, g, o, g', o', e1, e2, hc, hr, hvw, hold⟩ := HLq.out.look j hlt
              obtain ⟨dj, htj⟩ := hold.tree
              obtain ⟨ej, hnj⟩ := hold.node
              have hal := alike_trueL (fun b => b < wr.heap.size) _ ej dj wr.drew pj nj aj cj (((hnj.below Hbe.out).mono (fun b _ hl => hl)).below (on_drew (Below.refl _ _))) (fun b hb => hb) ((htj.below Hbe.out).below (on_drew (Below.refl _ _))) hold.parts
              have Hal := Lib.hid hal
              have hcy : wr.cell? ⟨g, o + j, none⟩ = some (.pointer (some ⟨pj, 0, none⟩)) := (Hbe.out.cell (World.block_lt_of_cell? wz _ hc)).trans hc
              have hry : wr.rangeAt g' (o' + j * 41) (nj.row aj cj) := rangeAt_kept hr (Upd.below Hbe.out (fun _ => False)) id
              have HSy := Lib.hid (show wr.drew.cell? ⟨g, o + j, none⟩ = some (.pointer (some ⟨pj, 0, none⟩)) ∧ wr.drew.rangeAt g' (o' + j * 41) (nj.row aj cj) from ⟨hcy, hry⟩)
              have j41 := Lib.hid (row_len (a := aj) (c := cj) hvw)
              have infj : (Try.prog.info? 30).map (·.size) = some (nj.row aj cj).length := by rw [j41.out]; kernel_rfl
              have i1 : (0 : Int) ≤ (j : Int) := by omega
              have i2 : (j : Int) < (KN : Int) := by omega
              subst e1 e2
              clear hc hr hold htj hnj hal hcy hry
              go_wp2_with fail
              refine wp_region_noPanic ?_
              refine wp_region_held_drew (S := (fun w' => w'.cell? ⟨g, o + j, none⟩ = some (.pointer (some ⟨pj, 0, none⟩)) ∧ w'.rangeAt g' (o' + j * 41) (nj.row aj cj))) (by kernel_rfl) HSy.out (fun hHeld => ?_)
              refine wpAnyH_take (i := 0) (v := ?_) rfl (by kernel_rfl) (by kernel_rfl) (by kernel_rfl) (fun _ _ _ h => h) (Or.inl ⟨by rfl, ?_⟩) (by assumption) ?_
              rotate_left
              · intro w hSw; (try dsimp only at hSw); go_simp; (try with_reducible rfl)
              (try simp only [List.getElem_toArray, List.getElem_cons_succ, List.getElem_cons_zero, Act.put, List.setIfInBounds_toArray, List.set_cons_zero, List.set_cons_succ])
              refine wpAnyH_take (i := 1) (v := ?_) rfl (by kernel_rfl) (by kernel_rfl) (by kernel_rfl) (fun _ _ _ h => h) (Or.inl ⟨by rfl, ?_⟩) (by assumption) ?_
              rotate_left
              · intro w hSw; (try dsimp only at hSw); go_simp; (try with_reducible rfl)
              (try simp only [List.getElem_toArray, List.getElem_cons_succ, List.getElem_cons_zero, Act.put, List.setIfInBounds_toArray, List.set_cons_zero, List.set_cons_succ])
              refine wpAnyH_take (i := 2) (v := ?_) rfl (by kernel_rfl) (by kernel_rfl) (by kernel_rfl) (fun _ _ _ h => h) (Or.inl ⟨by rfl, ?_⟩) (by assumption) ?_
              rotate_left
              · intro w hSw; (try dsimp only at hSw); go_simp; (try with_reducible rfl)
              (try simp only [List.getElem_toArray, List.getElem_cons_succ, List.getElem_cons_zero, Act.put, List.setIfInBounds_toArray, List.set_cons_zero, List.set_cons_succ])
              refine wpAnyH_take (i := 3) (v := ?_) rfl (by kernel_rfl) (by kernel_rfl) (by kernel_rfl) (fun _ _ _ h => h) (Or.inl ⟨by rfl, ?_⟩) (by assumption) ?_
              rotate_left
              · intro w hSw; (try dsimp only at hSw); go_simp; (try with_reducible rfl)
              (try simp only [List.getElem_toArray, List.getElem_cons_succ, List.getElem_cons_zero, Act.put, List.setIfInBounds_toArray, List.set_cons_zero, List.set_cons_succ])
              refine wpAnyH_take (i := 4) (v := ?_) rfl (by kernel_rfl) (by kernel_rfl) (by kernel_rfl) (fun _ _ _ h => h) (Or.inl ⟨by rfl, ?_⟩) (by assumption) ?_
              rotate_left
              · intro w hSw; (try dsimp only at hSw); go_simp; (try with_reducible rfl)
              (try simp only [List.getElem_toArray, List.getElem_cons_succ, List.getElem_cons_zero, Act.put, List.setIfInBounds_toArray, List.set_cons_zero, List.set_cons_succ])
              refine wpAnyH_take (i := 5) (v := ?_) rfl (by kernel_rfl) (by kernel_rfl) (by kernel_rfl) (fun _ _ _ h => h) (Or.inl ⟨by rfl, ?_⟩) (by assumption) ?_
              rotate_left
              · intro w hSw; (try dsimp only at hSw); go_simp; (try with_reducible rfl)
              (try simp only [List.getElem_toArray, List.getElem_cons_succ, List.getElem_cons_zero, Act.put, List.setIfInBounds_toArray, List.set_cons_zero, List.set_cons_succ])
              refine wpAnyH_take (i := 6) (v := ?_) rfl (by kernel_rfl) (by kernel_rfl) (by kernel_rfl) (fun _ _ _ h => h) (Or.inl ⟨by rfl, ?_⟩) (by assumption) ?_
              rotate_left
              · intro w hSw; (try dsimp only at hSw); go_simp; (try with_reducible rfl)
              (try simp only [List.getElem_toArray, List.getElem_cons_succ, List.getElem_cons_zero, Act.put, List.setIfInBounds_toArray, List.set_cons_zero, List.set_cons_succ])
              refine wpAnyH_take (i := 7) (v := _) rfl (by kernel_rfl) (by kernel_rfl) (by kernel_rfl) (fun _ _ _ h => h) (yieldsIf_load_mid (by rfl) 30 (.tmp 184) rfl g' (o' + j * 41) rfl (nj.row aj cj) _ (fun w hSw => hSw.2) und41 rfl infj) (by assumption) ?_
              (try simp only [List.getElem_toArray, List.getElem_cons_succ, List.getElem_cons_zero, Act.put, List.setIfInBounds_toArray, List.set_cons_zero, List.set_cons_succ])
              refine wpAnyH_ready (rs := [8]) (by kernel_rfl) (by simp) ?_
              refine AllReadyH.cons rfl (fun KK hKK => ?_) AllReadyH.nil
              go_simp
              refine Hal.out.mono ?_
              rintro e8 w8 ⟨rfl, hb8⟩
              have hb8' : Below wr.heap.size wr w8 := below_on (on_drew (Below.refl wr.heap.size wr)) hb8
              have Hbe8 := Lib.hid (Hbe.out.trans (hb8'.mono Hbe.out.size))
              have HS8 := Lib.hid (show w8.cell? ⟨g, o + j, none⟩ = some (.pointer (some ⟨pj, 0, none⟩)) ∧ w8.rangeAt g' (o' + j * 41) (nj.row aj cj) from ⟨(hb8.cell (World.block_lt_of_cell? _ _ HSy.out.1)).trans HSy.out.1, rangeAt_kept HSy.out.2 (Upd.below hb8 (fun _ => False)) id⟩)
              clear hb8 hb8'
              (try go_wp2_with fail)
              refine hKK.out _ _ HS8.out (fun hHeld => ?_)
              clear hKK KK
              (try simp only [List.getElem_toArray, List.getElem_cons_succ, List.getElem_cons_zero, Act.put, List.setIfInBounds_toArray, List.set_cons_zero, List.set_cons_succ])
              refine wpAnyH_take (i := 9) (v := ?_) rfl (by kernel_rfl) (by kernel_rfl) (by kernel_rfl) (fun _ _ _ h => h) (Or.inl ⟨by rfl, ?_⟩) (by assumption) ?_
              rotate_left
              · intro w hSw; (try dsimp only at hSw); go_simp; (try with_reducible rfl)
              (try simp only [List.getElem_toArray, List.getElem_cons_succ, List.getElem_cons_zero, Act.put, List.setIfInBounds_toArray, List.set_cons_zero, List.set_cons_succ])
              refine wpAnyH_done (by kernel_rfl) ?_ _
              refine NoPanic.normal ?_
              clear hHeld
              go_wp2_with fail
              go_roundw
              case rel => exact ⟨j + 1, hlt, by go_num, Hbe8.out⟩
              case measure => simp [intOf]; omega
            · have hlt2 : ¬ ((j : Int) < (KN : Int)) := by omega
              go_wp2
              go_ret
              exact ⟨rfl, below_on hlow Hbe.out⟩
end Go.Proofs.Ythnbinlllmkabaa
