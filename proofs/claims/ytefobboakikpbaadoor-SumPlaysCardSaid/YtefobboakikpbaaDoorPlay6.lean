/- The law SumPlays, walked. -/
import Derived.Test.YtefobboakikpbaaDoorPlay5
namespace Go.Proofs.YtefobboakikpbaaDoor
open Go.RowKit
set_option linter.unusedVariables false
set_option linter.unusedSimpArgs false
/-- The script. -/
def OpsIn (w : World) (a : Option Addr) (m : Nat) (D : Nat → OpD) : Prop := ∀ i, i < m → (D i).ok w ∧ ∃ g off, a = some ⟨g, off, none⟩ ∧ w.rangeAt g (off + i * 35) (D i).cells
theorem OpsIn.at {w w' : World} {a : Option Addr} {m : Nat} {D : Nat → OpD} (h : OpsIn w a m D) (hb : Below w.heap.size w w') {i : Nat} (hi : i < m) :
    ∃ g off, a = some ⟨g, off, none⟩ ∧ w'.rangeAt g (off + i * 35) (D i).cells ∧ w'.cell? ⟨g, off + i * 35, none⟩ = some (.int .i64 (D i).kind) ∧ w'.cell? ⟨g, off + i * 35 + 1, none⟩ = some (.int .i64 (D i).which) ∧ w'.cell? ⟨g, off + i * 35 + 2, none⟩ = some (.slice (D i).a (D i).n (D i).c) := by
  obtain ⟨_, g, off, rfl, hr⟩ := h i hi
  have hg : g < w.heap.size := by
    have h0 := hr 0 _ rfl
    exact World.block_lt_of_cell? w _ h0
  have hr' : w'.rangeAt g (off + i * 35) (D i).cells := fun j v hv => (hb.cell hg).trans (hr j v hv)
  exact ⟨g, off, rfl, hr', hr' 0 _ rfl, hr' 1 _ rfl, hr' 2 _ rfl⟩
set_option maxHeartbeats 4000000 in
set_option maxRecDepth 100000 in
theorem plays_law (w : World) (hk : KeysAt w) (hbg : BeginAt w) (a : Option Addr) (c m : Nat) (D : Nat → OpD) (hD : OpsIn w a m D) (hm : m ≤ 9223372036854775807) (hmn : ∀ i, i < m → (D i).n ≤ 9223372036854775807) (hw2 : 2 < w.heap.size) :
    Calls Tryd.prog 4 #[.slice a m c] w fun e w' => e = .returned (.bool true) ∧ Below w.heap.size w w' := by
  have Hk := Lib.hid hk
  have Hbg := Lib.hid hbg
  have HD := Lib.hid hD
  have Hmn := Lib.hid hmn
  clear hk hbg hD hmn
  go_enter Tryd.func4, Tryd.ntmps4
  go_wp2_with fail
  refine (many_any w 32768).mono ?_
  rintro e w1 ⟨rfl, hc1, hb1⟩
  have Hc1 := Lib.hid hc1
  have Hb1 := Lib.hid hb1
  obtain ⟨p, hp⟩ : ∃ p, p = w.heap.size := ⟨_, rfl⟩
  rw [← hp] at Hc1 ⊢
  have Hp := Lib.hid hp
  clear hc1 hb1 hp
  go_wp2_with fail
  go_loopw [4] (fun i wr => ∃ (k : Nat) (z : Int), k ≤ m ∧ i = .int .i64 k ∧ CountAt wr p z ∧ z ≤ 32768 ∧ (0 ≤ z → ∀ i, i < k → (D i).n ≤ 32768) ∧ Below w.heap.size w wr) (fun i _ => m - (intOf i).toNat)
  case atStart => exact ⟨0, 32768, Nat.zero_le _, rfl, Hc1.out, by omega, fun _ i hi => absurd hi (Nat.not_lt_zero _), Hb1.out⟩
  case round =>
    obtain ⟨k, z, hkm, rfl, hz, hz1, hz2, hbe⟩ := hrel
    have Hz := Lib.hid hz
    have Hz2 := Lib.hid hz2
    have Hbe := Lib.hid hbe
    clear hz hz2 hbe
    by_cases hgo : k < m ∧ 0 ≤ z
    · obtain ⟨hlt, hz0⟩ := hgo
      have i2 : (k : Int) < (m : Int) := by omega
      go_wp2_with fail
      refine (countOk_any wr p z Hz.out).mono ?_
      rintro e w' ⟨rfl, hw⟩
      obtain rfl := hw.symm
      rw [show decide (0 ≤ z) = true by simp [hz0]]
      obtain ⟨g, off, rfl, hr, c0, c1, c2⟩ := HD.out.at Hbe.out hlt
      have Hr := Lib.hid hr
      have i1 : (0 : Int) ≤ (k : Int) := by omega
      clear hr
      go_wp2_with fail
      obtain ⟨q, hq, hq2, hq3⟩ : ∃ q, wrap64 (1 + ((D k).n : Int)) = q ∧ ((0 ≤ q ∧ q ≤ 9223372036854775807) ∨ q = -9223372036854775808) ∧ (0 ≤ q → q = 1 + ((D k).n : Int)) := by
        have hb := Hmn.out k hlt
        refine ⟨_, rfl, ?_, ?_⟩ <;> unfold wrap64 <;> omega
      rw [hq]
      have Hq3 := Lib.hid hq3
      clear hq hq3
      refine (countAdd_any wr p z q Hz.out (by omega) hq2).mono ?_
      rintro e w' ⟨b, z', rfl, hc, hz', _, hu⟩
      have Hc := Lib.hid hc
      have Hu := Lib.hid hu
      have Hz' := Lib.hid hz'
      clear hc hu hz'
      clear hq2 c0 c1 c2
      go_wp2
      go_roundw
      case rel =>
        refine ⟨k + 1, z', hlt, by go_num, Hc.out, ?_, ?_, Hbe.out.upd (Nat.le_refl _) Hu.out (fun b hb => by have := Hp.out; omega)⟩
        · rcases Hz'.out with h | ⟨h1, h2, h3⟩ <;> omega
        · intro h0 i hi
          rcases Hz'.out with h | ⟨h1, h2, h3⟩
          · omega
          · by_cases hik : i = k
            · subst hik
              have := Hq3.out h2
              omega
            · exact Hz2.out h1 i (by omega)
      case measure => simp [intOf]; omega
    · have hend : ∀ (Z : Bool), Z = decide (0 ≤ z) → Z = decide (0 ≤ z) := fun _ h => h
      clear hend
      by_cases hz0 : 0 ≤ z
      · have hkm2 : k = m := by omega
        subst hkm2
        go_wp2_with fail
        refine (countOk_any wr p z Hz.out).mono ?_
        rintro e w' ⟨rfl, hw⟩
        obtain rfl := hw.symm
        rw [show decide (0 ≤ z) = true by simp [hz0]]
        have HN := Lib.hid (Hz2.out hz0)
        clear Hz2
        by_cases h200 : 200 < k
        · have i3 : (200 : Int) < (k : Int) := by omega
          go_wp2
          go_ret
          exact ⟨rfl, Hbe.out⟩
        · have i3 : (k : Int) ≤ 200 := by omega
          have Hbg2 := Lib.hid (Hbg.out.below Hbe.out)
          clear Hbg Hz hz0 hz1 Hc1 Hb1 hgo
          go_wp2_with fail
          refine (new_any wr Hbg2.out).mono ?_
          rintro e w2 ⟨rfl, hh2, hb2, hs2⟩
          have Hh2 := Lib.hid hh2
          have Hb2 := Lib.hid hb2
          clear hh2 hb2 hs2
          go_wp2_with fail
          refine (newPieces_any w2 (Hbg2.out.below Hb2.out)).mono ?_
          rintro e w3 ⟨rfl, hp3, hb3⟩
          have hlt2 := Hh2.out.lt.1
          have Hh3 := Lib.hid (Hh2.out.kept (Upd.below hb3 fun _ => False) id (fun _ _ => id))
          have Hp3 := Lib.hid hp3
          have Hb3 := Lib.hid (Hb2.out.trans (hb3.mono Hb2.out.size))
          have hsz32 := hb3.size
          have hsz2r := Hb2.out.size
          clear hp3 hb3 Hb2 Hh2
          go_wp2_with fail
          have hside1 : ∃ F1, SideAt (w3.alloc (.cells #[.pointer (some ⟨wr.heap.size, 0, none⟩), .pointer (some ⟨w2.heap.size + 1, 0, none⟩), .slice none 0 0, .slice none 0 0] 40)) w3.heap.size [] [] F1 ∧ ∀ k, F1 k → w.heap.size ≤ k := by
            have hz := Hbe.out.size
            have hal : ∀ o, Upd (fun _ => False) w3 (w3.alloc o) := fun o => (Upd.refl _ w3).alloc o
            exact ⟨_, side_new (heap_alloc_new w3 _) (Hh3.out.kept (hal _) id (fun _ _ => id)) (Hp3.out.kept (hal _) id id (fun _ _ => id)) (by omega), fun k h => by omega⟩
          have hb4 : Below wr.heap.size wr (w3.alloc (.cells #[.pointer (some ⟨wr.heap.size, 0, none⟩), .pointer (some ⟨w2.heap.size + 1, 0, none⟩), .slice none 0 0, .slice none 0 0] 40)) := on_alloc Hb3.out _
          have hsz43 : (w3.alloc (.cells #[.pointer (some ⟨wr.heap.size, 0, none⟩), .pointer (some ⟨w2.heap.size + 1, 0, none⟩), .slice none 0 0, .slice none 0 0] 40)).heap.size = w3.heap.size + 1 := by simp
          have hp1 : Value.pointer (some ⟨w3.heap.size, 0, none⟩) = .pointer (some ⟨w3.heap.size, 0, none⟩) := rfl
          generalize w3.alloc (.cells #[.pointer (some ⟨wr.heap.size, 0, none⟩), .pointer (some ⟨w2.heap.size + 1, 0, none⟩), .slice none 0 0, .slice none 0 0] 40) = w4 at hside1 hb4 hsz43 ⊢
          have hsz43' : w3.heap.size < w4.heap.size := by omega
          clear hsz43
          obtain ⟨F1, hside1, hF1⟩ := hside1
          have Hside1 := Lib.hid hside1
          have HF1 := Lib.hid hF1
          have Hb4 := Lib.hid hb4
          clear hside1 hF1 hb4 hp1 Hh3 Hp3 Hb3
          refine (new_any w4 (Hbg2.out.below Hb4.out)).mono ?_
          rintro e w5 ⟨rfl, hh5, hb5, hs5⟩
          have Hh5 := Lib.hid hh5
          have Hb5 := Lib.hid hb5
          clear hh5 hb5 hs5
          go_wp2_with fail
          refine (newPieces_any w5 (Hbg2.out.below (Hb4.out.trans (Hb5.out.mono Hb4.out.size)))).mono ?_
          rintro e w6 ⟨rfl, hp6, hb6⟩
          have hlt5 := Hh5.out.lt.1
          have Hh6 := Lib.hid (Hh5.out.kept (Upd.below hb6 fun _ => False) id (fun _ _ => id))
          have Hp6 := Lib.hid hp6
          have Hb6 := Lib.hid (Hb5.out.trans (hb6.mono Hb5.out.size))
          have hsz65 := hb6.size
          have hsz54 := Hb5.out.size
          clear hp6 hb6 Hb5 Hh5
          obtain ⟨w7, hw7⟩ : ∃ w7, w7 = w6.alloc (.cells #[.pointer (some ⟨w4.heap.size, 0, none⟩), .pointer (some ⟨w5.heap.size + 1, 0, none⟩), .slice none 0 0, .slice none 0 0] 40) := ⟨_, rfl⟩
          have hb7 : Below w4.heap.size w4 w7 := by rw [hw7]; exact on_alloc Hb6.out _
          have hside2 : ∃ F2, SideAt w7 w6.heap.size [] [] F2 ∧ ∀ k, F2 k → w4.heap.size ≤ k := by
            have hal : Upd (fun _ => False) w6 w7 := by rw [hw7]; exact (Upd.refl _ w6).alloc _
            exact ⟨_, side_new (by rw [hw7]; exact heap_alloc_new w6 _) (Hh6.out.kept hal id (fun _ _ => id)) (Hp6.out.kept hal id id (fun _ _ => id)) (by omega), fun k h => by omega⟩
          obtain ⟨F2, hside2, hF2⟩ := hside2
          have hside17 := Hside1.out.below hb7
          obtain ⟨e1, e2, c10, c11⟩ := hside17.cells
          obtain ⟨e3, e4, c20, c21⟩ := hside2.cells
          have hTwo : Two w w7 w3.heap.size w6.heap.size 0 := by
            have hz := Hbe.out.size
            have hz4 := Hb4.out.size
            obtain ⟨_, _, _, _, _, _, _, _, _, _, _, _, _, _, _, _, _, _, _, _, _, hlt⟩ := Hside1.out
            refine ⟨F1, F2, [], [], [], [], hside17, hside2, fun k h1 h2 => by have := hlt k h1; have := hF2 k h2; omega, HF1.out, fun k h => by have := hF2 k h; omega, by simp, ?_⟩
            exact Hbe.out.trans ((Hb4.out.trans (hb7.mono hz4)).mono hz)
          have HTwo := Lib.hid hTwo
          obtain ⟨s1, hs1⟩ : ∃ s1, s1 = w3.heap.size := ⟨_, rfl⟩
          obtain ⟨s2, hs2⟩ : ∃ s2, s2 = w6.heap.size := ⟨_, rfl⟩
          have HTwo2 : Hid (Two w w7 s1 s2 0) := by rw [hs1, hs2]; exact HTwo
          clear hTwo HTwo hside17 hside2 hF2 Hh6 Hp6 Hb6 hb7 Hside1 HF1 Hb4
          rw [hw7] at c10 c11 c20 c21
          go_wp2_with fail
          rw [← hw7]
          rw [← hs1, ← hs2]
          clear c10 c11 c20 c21 hw7 hs1 hs2 hlt2 hsz32 hsz2r hlt5 hsz65 hsz54 Hbg2 Hbe
          go_loopw [7] (fun i wq => ∃ j : Nat, j ≤ k ∧ i = .int .i64 j ∧ Two w wq s1 s2 (65536 * j)) (fun i _ => k - (intOf i).toNat)
          case atStart => exact ⟨0, Nat.zero_le _, rfl, HTwo2.out⟩
          case round =>
            rename World => wq
            obtain ⟨j, hjk, rfl, htw⟩ := hrel
            have Htw := Lib.hid htw
            clear htw HTwo2
            by_cases hlt : j < k
            · have hmeas : True := trivial
              obtain ⟨g, off, hae, hr, c0, c1, c2⟩ := HD.out.at Htw.out.below hlt
              subst hae
              have hok := (HD.out j hlt).1
              have Hok := Lib.hid hok
              have hsz : (Tryd.prog.info? 35).map (·.size) = some (D j).cells.length := by rw [OpD.length hok.1]; kernel_rfl
              have Hsz := Lib.hid hsz
              have Hr := Lib.hid hr
              have hnj := HN.out j hlt
              have hN1 : 65536 * j ≤ 35184372088832 := by omega
              have hN2 : 65536 * j + 32768 ≤ 35184372088832 := by omega
              have i1 : (0 : Int) ≤ (j : Int) := by omega
              have i2 : (j : Int) < (k : Int) := by omega
              have hone : ∀ wx w', Two w wx s1 s2 (65536 * j) → Two w w' s1 s2 (65536 * j + 32768) → Two w w' s1 s2 (65536 * (j + 1)) := fun _ _ _ h => h.mono (by omega)
              clear hone hok hsz hr
              obtain ⟨kd, hkd⟩ : ∃ kd, kd = (D j).kind := ⟨_, rfl⟩
              obtain ⟨wh, hwh⟩ : ∃ wh, wh = (D j).which := ⟨_, rfl⟩
              rw [← hkd] at c0
              rw [← hwh] at c1
              have Hkd := Lib.hid hkd
              clear hkd hwh
              by_cases hwx : wh = 1
              · have bw : (wh == 1) = true := by simpa using hwx
                clear hwx
                go_wp2_with (first | refine wpList_load_mid rfl 35 (.tmp 91) rfl g (off + j * 35) rfl (D j).cells _ Hr.out Tryd.underlying35 rfl Hsz.out ?_ | refine wpList_load_midg rfl 35 (.tmp 114) rfl g (off + j * 35) rfl (D j).cells _ Hr9.out Tryd.underlying35 rfl Hsz.out ?_)
                refine (two_plays w wq s2 s1 (65536 * j) Htw.out.swap (D j) Hok.out _ rfl Hk.out hnj hN1 hw2).mono ?_
                rintro e w8 ⟨rfl, ht8⟩
                have Ht8 := Lib.hid ht8.swap
                obtain ⟨g', off', he9, hr9, d0, d1, d2⟩ := HD.out.at Ht8.out.below hlt
                injection he9 with he9
                injection he9 with he91 he92
                subst he91 he92
                rw [← Hkd.out] at d0
                have Hr9 := Lib.hid hr9
                clear ht8 hr9 c0 c1 c2 d1 d2
                by_cases hq : kd = 2 ∨ kd = 3 ∨ kd = 5
                · have hq3 : ∃ b2 b3 b5 : Bool, (kd == 2) = b2 ∧ (kd == 3) = b3 ∧ (kd == 5) = b5 ∧ (b2 || b3 || b5) = true := ⟨_, _, _, rfl, rfl, rfl, by simpa [or_assoc] using hq⟩
                  obtain ⟨b2, b3, b5, e2, e3, e5, hb⟩ := hq3
                  clear hq
                  cases b2 <;> cases b3 <;> cases b5 <;> first
                    | (exact absurd hb (by decide))
                    | skip
                  all_goals
                    go_wp2_with (first | refine wpList_load_mid rfl 35 (.tmp 91) rfl g (off + j * 35) rfl (D j).cells _ Hr.out Tryd.underlying35 rfl Hsz.out ?_ | refine wpList_load_midg rfl 35 (.tmp 114) rfl g (off + j * 35) rfl (D j).cells _ Hr9.out Tryd.underlying35 rfl Hsz.out ?_)
                    refine (two_plays w w8 s2 s1 (65536 * j + 32768) Ht8.out.swap (D j) Hok.out _ rfl Hk.out hnj hN2 hw2).mono ?_
                    rintro e w9 ⟨rfl, ht9⟩
                    have Ht9 := Lib.hid ht9.swap
                    clear ht9 d0 e2 e3 e5 hb
                    go_wp2
                    go_roundw
                    case rel => exact ⟨j + 1, hlt, by go_num, Ht9.out.mono (by omega)⟩
                    case measure => simp [intOf]; omega
                · have e2 : (kd == 2) = false := by simp; omega
                  have e3 : (kd == 3) = false := by simp; omega
                  have e5 : (kd == 5) = false := by simp; omega
                  clear hq
                  go_wp2
                  go_roundw
                  case rel => exact ⟨j + 1, hlt, by go_num, Ht8.out.mono (by omega)⟩
                  case measure => simp [intOf]; omega
              · have bw : (wh == 1) = false := by simpa using hwx
                clear hwx
                go_wp2_with (first | refine wpList_load_mid rfl 35 (.tmp 91) rfl g (off + j * 35) rfl (D j).cells _ Hr.out Tryd.underlying35 rfl Hsz.out ?_ | refine wpList_load_midg rfl 35 (.tmp 114) rfl g (off + j * 35) rfl (D j).cells _ Hr9.out Tryd.underlying35 rfl Hsz.out ?_)
                refine (two_plays w wq s1 s2 (65536 * j) Htw.out (D j) Hok.out _ rfl Hk.out hnj hN1 hw2).mono ?_
                rintro e w8 ⟨rfl, ht8⟩
                have Ht8 := Lib.hid ht8
                obtain ⟨g', off', he9, hr9, d0, d1, d2⟩ := HD.out.at Ht8.out.below hlt
                injection he9 with he9
                injection he9 with he91 he92
                subst he91 he92
                rw [← Hkd.out] at d0
                have Hr9 := Lib.hid hr9
                clear ht8 hr9 c0 c1 c2 d1 d2
                by_cases hq : kd = 2 ∨ kd = 3 ∨ kd = 5
                · have hq3 : ∃ b2 b3 b5 : Bool, (kd == 2) = b2 ∧ (kd == 3) = b3 ∧ (kd == 5) = b5 ∧ (b2 || b3 || b5) = true := ⟨_, _, _, rfl, rfl, rfl, by simpa [or_assoc] using hq⟩
                  obtain ⟨b2, b3, b5, e2, e3, e5, hb⟩ := hq3
                  clear hq
                  cases b2 <;> cases b3 <;> cases b5 <;> first
                    | (exact absurd hb (by decide))
                    | skip
                  all_goals
                    go_wp2_with (first | refine wpList_load_mid rfl 35 (.tmp 91) rfl g (off + j * 35) rfl (D j).cells _ Hr.out Tryd.underlying35 rfl Hsz.out ?_ | refine wpList_load_midg rfl 35 (.tmp 114) rfl g (off + j * 35) rfl (D j).cells _ Hr9.out Tryd.underlying35 rfl Hsz.out ?_)
                    refine (two_plays w w8 s1 s2 (65536 * j + 32768) Ht8.out (D j) Hok.out _ rfl Hk.out hnj hN2 hw2).mono ?_
                    rintro e w9 ⟨rfl, ht9⟩
                    have Ht9 := Lib.hid ht9
                    clear ht9 d0 e2 e3 e5 hb
                    go_wp2
                    go_roundw
                    case rel => exact ⟨j + 1, hlt, by go_num, Ht9.out.mono (by omega)⟩
                    case measure => simp [intOf]; omega
                · have e2 : (kd == 2) = false := by simp; omega
                  have e3 : (kd == 3) = false := by simp; omega
                  have e5 : (kd == 5) = false := by simp; omega
                  clear hq
                  go_wp2
                  go_roundw
                  case rel => exact ⟨j + 1, hlt, by go_num, Ht8.out.mono (by omega)⟩
                  case measure => simp [intOf]; omega
            · have i2 : (k : Int) ≤ (j : Int) := by omega
              have Ht7 : Hid (Two w wq s1 s2 (65536 * 200)) := Htw.out.mono (by omega)
              clear Htw
              go_wp2_with fail
              obtain ⟨G, hG⟩ : ∃ G, G = wq.heap.size := ⟨_, rfl⟩
              obtain ⟨wa, hwa⟩ : ∃ wa, wa = wq.alloc (.cells #[.int .i64 2, .int .i64 3, .int .i64 5] 3) := ⟨_, rfl⟩
              rw [← hwa]
              rw [← hG]
              have hrg : wa.heap[G]? = some (.cells #[.int .i64 2, .int .i64 3, .int .i64 5] 3 (0, 0)) := by rw [hwa, hG]; exact heap_alloc_new wq _
              have htg : TwoG w wa s1 s2 (65536 * 200) G := by rw [hG]; exact Ht7.out.toG (by rw [hwa]; exact on_alloc (Below.refl _ _) _) (by rw [hwa]; simp)
              have Hrg := Lib.hid hrg
              have Htg := Lib.hid htg
              clear hwa hG hrg htg Ht7
              go_loopw [121] (fun i wz => ∃ q : Nat, q ≤ 3 ∧ i = .int .i64 q ∧ TwoG w wz s1 s2 (65536 * 200 + 65536 * q) G ∧ wz.heap[G]? = some (.cells #[.int .i64 2, .int .i64 3, .int .i64 5] 3 (0, 0))) (fun i _ => 3 - (intOf i).toNat)
              case atStart => exact ⟨0, Nat.zero_le _, rfl, Htg.out, Hrg.out⟩
              case round =>
                rename World => wz
                obtain ⟨q, hq3, rfl, htg, hrg⟩ := hrel
                have Htg' := Lib.hid htg
                have Hrg' := Lib.hid hrg
                clear htg Htg Hrg
                have hN1 : 65536 * 200 + 65536 * q ≤ 35184372088832 := by omega
                have hN2 : 65536 * 200 + 65536 * q + 32768 ≤ 35184372088832 := by omega
                by_cases hlt3 : q < 3
                · obtain ⟨v, hv⟩ : ∃ v : Int, (#[Value.int .i64 2, .int .i64 3, .int .i64 5] : Array Value)[q]? = some (.int .i64 v) := by
                    rcases q with _ | _ | _ | q
                    · exact ⟨2, rfl⟩
                    · exact ⟨3, rfl⟩
                    · exact ⟨5, rfl⟩
                    · omega
                  have f0 := (cell_of_row wz G q _ _ _ hrg).trans hv
                  have i1 : (0 : Int) ≤ (q : Int) := by omega
                  have i2 : (q : Int) < 3 := by omega
                  clear hrg hv
                  go_wp2_with fail
                  refine (twoG_plays w wz s1 s2 _ G Htg'.out (bare v) (bare_ok w v) _ (by kernel_rfl) Hk.out (Nat.zero_le _) hN1 hw2).mono ?_
                  rintro e wy ⟨rfl, hty, hry⟩
                  have Hty := Lib.hid hty
                  have Hry := Lib.hid hry
                  clear hty hry f0
                  go_wp2_with fail
                  refine (twoG_plays w wy s2 s1 _ G Hty.out.swap (bare v) (bare_ok w v) _ (by kernel_rfl) Hk.out (Nat.zero_le _) hN2 hw2).mono ?_
                  rintro e wx ⟨rfl, htx, hrx⟩
                  have Htx := Lib.hid htx.swap
                  have Hrx := Lib.hid (hrx.trans (Hry.out.trans Hrg'.out))
                  clear htx hrx Hty Hry Htg' Hrg'
                  go_wp2
                  go_roundw
                  case rel => exact ⟨q + 1, hlt3, by go_num, Htx.out.mono (by omega), Hrx.out⟩
                  case measure => simp [intOf]; omega
                · have i2 : (3 : Int) ≤ (q : Int) := by omega
                  clear hrg
                  go_wp2
                  go_ret
                  exact ⟨rfl, Htg'.out.below⟩
      · have hz9 : decide (0 ≤ z) = false := by simp; omega
        by_cases hkm2 : k = m
        · subst hkm2
          go_wp2_with fail
          refine (countOk_any wr p z Hz.out).mono ?_
          rintro e w' ⟨rfl, hw⟩
          obtain rfl := hw.symm
          rw [hz9]
          go_wp2
          go_ret
          exact ⟨rfl, Hbe.out⟩
        · have i2 : (k : Int) < (m : Int) := by omega
          go_wp2_with fail
          refine (countOk_any wr p z Hz.out).mono ?_
          rintro e w' ⟨rfl, hw⟩
          obtain rfl := hw.symm
          rw [hz9]
          go_wp2_with fail
          refine (countOk_any wr p z Hz.out).mono ?_
          rintro e w' ⟨rfl, hw⟩
          obtain rfl := hw.symm
          rw [hz9]
          go_wp2
          go_ret
          exact ⟨rfl, Hbe.out⟩
end Go.Proofs.YtefobboakikpbaaDoor
