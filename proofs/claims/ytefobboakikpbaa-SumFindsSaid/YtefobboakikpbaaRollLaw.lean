/- The law SumRolls, walked. -/
import Derived.Test.YtefobboakikpbaaRoll3
namespace Go.Proofs.Ytefobboakikpbaa
open Go.RowKit
set_option linter.unusedVariables false
set_option linter.unusedSimpArgs false

/-- numbers of a kind, as cells -/
def nums8 (zs : List Int) : List Value := zs.map fun z => .int .u8 z
theorem nums8_length (zs : List Int) : (nums8 zs).length = zs.length := by simp [nums8]
theorem bytes_nums8 (l : List UInt8) : bytes l = nums8 (l.map fun x => (x.toNat : Int)) := by simp [bytes, nums8]

theorem early_any (w : World) (a0 a1 : Option Addr) (n0 c0 n1 c1 : Nat) (h0m : n0 ≤ 9223372036854775807) (h1m : n1 ≤ 9223372036854775807) (h : 3000 < n0 ∨ 3000 < n1 ∨ 1048576 < n0 * n1) :
    Calls Try.prog 3 #[.slice a0 n0 c0, .slice a1 n1 c1] w fun e w' => e = .returned (.bool true) ∧ Below w.heap.size w w' := by
  by_cases h1 : 3000 < n0
  · clear h
    go_enter Try.func3, Try.ntmps3
    go_wp2
    go_ret
    exact ⟨rfl, Below.refl _ _⟩
  · by_cases h2 : 3000 < n1
    · clear h
      go_enter Try.func3, Try.ntmps3
      go_wp2
      go_ret
      exact ⟨rfl, Below.refl _ _⟩
    · have h3 : 1048576 < n0 * n1 := by omega
      have h4 : n0 * n1 ≤ 9000000 := by
        have := Nat.mul_le_mul (show n0 ≤ 3000 by omega) (show n1 ≤ 3000 by omega)
        omega
      clear h
      have h5 : (1048576 : Int) < (n0 : Int) * n1 := by omega
      have h6 : (n0 : Int) * n1 ≤ 9000000 := by omega
      have h7 : 0 ≤ (n0 : Int) * n1 := by omega
      go_enter Try.func3, Try.ntmps3
      go_wp2
      go_ret
      exact ⟨rfl, Below.refl _ _⟩

set_option maxHeartbeats 2000000 in
theorem sumRolls_main (w : World) (a0 a1 : Option Addr) (c0 c1 : Nat) (l0 l1 : List UInt8) (hs0 : Sl w 1 (.slice a0 l0.length c0) l0.length (bytes l0)) (hs1 : Sl w 1 (.slice a1 l1.length c1) l1.length (bytes l1))
    (h1 : l0.length ≤ 3000) (h2 : l1.length ≤ 3000) (h3 : (l0.length : Int) * l1.length ≤ 1048576) (h4 : 0 ≤ (l0.length : Int) * l1.length) :
    Calls Try.prog 3 #[.slice a0 l0.length c0, .slice a1 l1.length c1] w fun e w' => e = .returned (.bool true) ∧ Below w.heap.size w w' := by
  obtain ⟨i0, hi, hz0, hz1, hz2⟩ := info_parts info_byte
  go_enter Try.func3, Try.ntmps3
  go_wp2_with (at_builtin; refine wpList_append_any rfl _ _ 22 rfl 5 i0 (.int .u8 0) 1 1 Try.underlying22 hi hz0 hz1 hz2 rfl (by decide) (.slice none 0 0) 0 [] _ l0.length (bytes l0) rfl rfl (Own.nil _ _ _) hs0 (bytes_one l0) (by omega) (by omega) ?_)
  intro a5 c5 w1 hg5 hgr5 hb5
  have hu1 := (Below.refl w.heap.size w).grown hgr5 (Nat.le_refl _) (by simp [Value.ownBlock])
  have hb5' : ∀ k, (Value.slice a5 l0.length c5).ownBlock = some k → w.heap.size ≤ k := fun k hk => hb5 k (by simp [Value.ownBlock]) (by simpa using hk)
  clear hgr5 hb5
  go_wp2_with fail
  refine (newRoller_win w1 _ l0 hg5.sl (by omega)).mono ?_
  rintro e w2 ⟨p, ar, cr, rfl, hp, hr, hR, hbe2⟩
  have hgb : ∀ k, (Value.slice a5 l0.length c5).ownBlock = some k → k < w1.heap.size := fun k hk => hg5.lt hk
  have hg5 := hg5.kept (Upd.below hbe2 fun _ => False) (fun _ _ => id)
  go_wp2_with fail
  refine (weak_any w2).mono ?_
  rintro e w3 ⟨rfl, hbe3⟩
  have hg5 := hg5.kept (Upd.below hbe3 fun _ => False) (fun _ _ => id)
  have hR := hR.kept (Upd.below hbe3 fun _ => False) id (fun _ _ => id)
  go_wp2_with fail
  have hsz1 := hu1.size
  have HB3 := Lib.hid (hu1.trans ((hbe2.mono hu1.size).trans (hbe3.mono (Nat.le_trans hu1.size hbe2.size))))
  clear hu1 hbe2 hbe3
  have HR := Lib.hid hR
  clear hR
  have HG := Lib.hid hg5
  clear hg5
  have Hs0 := Lib.hid hs0
  have Hs1 := Lib.hid hs1
  clear hs0 hs1
  go_loopw [7] (fun i wr => ∃ (k : Nat) (zs : List Int), k ≤ l0.length ∧ i = .int .i64 k ∧ zs.length = l0.length ∧ Own wr 5 1 (.slice a5 l0.length c5) l0.length (nums8 zs) ∧
      Upd (fun b => (Value.slice a5 l0.length c5).ownBlock = some b) w3 wr) (fun i _ => l0.length - (intOf i).toNat)
  case atStart => exact ⟨0, l0.map fun x => (x.toNat : Int), Nat.zero_le _, rfl, by simp, by rw [← bytes_nums8]; exact HG.out, Upd.refl _ _⟩
  case round =>
    obtain ⟨k, zs, hk, rfl, hzl, hown, hu⟩ := hrel
    by_cases hlt : k < l0.length
    · have hne : nums8 zs ≠ [] := ne_nil_of_length (by rw [nums8_length]; omega)
      obtain ⟨g, off, cap, cur, hv, hg, hcs, hnc, hcell, hfz⟩ := hown.cells hne
      injection hv with hv1 _ hv3
      subst hv1 hv3
      have f0 := hcell k (.int .u8 (zs.getD k 0)) (by simp [nums8, hzl, hlt])
      have g0 := hfz (off + k)
      have Hown := Lib.hid hown
      have Hzl := Lib.hid hzl
      clear hcell hfz hg hown hne hzl
      go_wp2
      go_roundw
      case rel =>
        refine ⟨k + 1, zs.set k (((zs.getD k 0) + 1) % 256), hlt, by go_num, by rw [List.length_set]; exact Hzl.out, ?_, hu.setCell _ _ (by simp [Value.ownBlock])⟩
        have h := Hown.out.set k (.int .u8 (((zs.getD k 0) + 1) % 256)) (by omega)
        simpa [nums8, List.map_set] using h
      case measure => simp [intOf]; omega
    · have HBr := Lib.hid (HB3.out.upd (Nat.le_refl _) hu hb5')
      have HRr := Lib.hid (HR.out.kept hu (fun h => by have := hgb _ h; omega) (fun k hk h => by have := hgb _ h; have := hr k hk; omega))
      clear hown hzl hu
      go_wp2_with (at_builtin; refine wpList_append_any rfl _ _ 22 rfl 5 i0 (.int .u8 0) 1 1 Try.underlying22 hi hz0 hz1 hz2 rfl (by decide) (.slice none 0 0) 0 [] _ l0.length (bytes l0) rfl rfl (Own.nil _ _ _) (Hs0.out.below HBr.out) (bytes_one l0) (by omega) (by omega) ?_)
      intro a8 c8 w4 hg8 hgr8 hb8
      have hb8' : ∀ k, (Value.slice a8 l0.length c8).ownBlock = some k → wr.heap.size ≤ k := fun k hk => hb8 k (by simp [Value.ownBlock]) (by simpa using hk)
      have hu4 : Upd (fun _ => False) wr w4 := (Upd.refl _ _).grown hgr8 (by simp [Value.ownBlock])
      have hpl := HRr.out.lt
      have HR4 := HRr.out.kept hu4 id (fun _ _ => id)
      have HB4 := HBr.out.upd (Nat.le_refl _) hu4 (fun _ h => h.elim)
      have hsz : w.heap.size ≤ wr.heap.size := HBr.out.size
      have hsz4 := hu4.size
      clear hgr8 hb8 hu4
      go_wp2_with fail
      refine (rollerSum_win _ p ar cr l0 HR4).mono ?_
      rintro e w5 ⟨rfl, hu5, HR5⟩
      have HR5 := Lib.hid HR5
      have HB5 := Lib.hid (HB4.upd (Nat.le_refl _) hu5 (fun _ h => h.elim))
      have Hg8 := Lib.hid (hg8.kept hu5 (fun _ _ => id))
      have hsz5 := Nat.le_trans hsz4 hu5.size
      clear HR4 HB4 hu5 hg8 hsz4
      go_wp2_with fail
      refine (refWeak_any w5 _ l0 Hg8.out.sl h1).mono ?_
      rintro e w' ⟨rfl, rfl⟩
      go_wp2_with fail
      go_loopw [8, 9] (fun v i wq => ∃ (k : Nat) (win : List UInt8) (a9 : Option Addr) (c9 : Nat), k ≤ l1.length ∧ i = .int .i64 k ∧ v = .slice a9 win.length c9 ∧ win.length = l0.length ∧
          Own wq 5 1 (.slice a9 win.length c9) win.length (bytes win) ∧ RollW wq p ar cr win ∧ Below w.heap.size w wq ∧ wr.heap.size ≤ wq.heap.size ∧
          (∀ k, (Value.slice a9 win.length c9).ownBlock = some k → wr.heap.size ≤ k)) (fun _ i _ => l1.length - (intOf i).toNat)
      case atStart => exact ⟨0, l0, a8, c8, Nat.zero_le _, rfl, rfl, rfl, Hg8.out, HR5.out, HB5.out, hsz5, hb8'⟩
      case round =>
        clear Hg8 HR5 HB5 hsz5 hb8'
        rename World => wq
        clear HR HG HB3 hb5' hgb hg5 hR HR5
        obtain ⟨k2, win, a9, c9, hk2, rfl, rfl, hwl, hg9, hRq, hBq, hszq, hb9⟩ := hrel
        have Hwl := Lib.hid hwl
        have hw3 : win.length ≤ 3000 := by omega
        clear hwl
        by_cases hlt2 : k2 < l1.length
        · obtain ⟨a1', c1', he1, _, _, hc1⟩ := Hs1.out.below hBq
          injection he1 with he1a _ he1c
          subst he1a he1c
          obtain ⟨ad, rfl, hc2⟩ := hc1 (ne_nil_of_length (by rw [bytes_length]; omega))
          have fx := hc2 k2 _ (bytes_get l1 k2 hlt2)
          clear hc1 hc2
          have Fx : Hid (w.cell? (ad.add k2) = some (.int .u8 l1[k2].toNat)) := by
            obtain ⟨a3, c3, he3, _, _, hc3⟩ := Hs1.out
            injection he3 with he3a
            subst he3a
            obtain ⟨ad3, he4, hc4⟩ := hc3 (ne_nil_of_length (by rw [bytes_length]; omega))
            injection he4 with he4
            subst he4
            exact hc4 k2 _ (bytes_get l1 k2 hlt2)
          by_cases hw0 : win = []
          · have hb10' := hb9
            have hg10 := hg9
            have HRq := Lib.hid hRq
            have HBq := Lib.hid hBq
            have hlw : win.length ≤ 0 := by rw [hw0]; exact Nat.le_refl _
            have hlw2 : (stepW win l1[k2]).length ≤ 0 := by rw [stepW_length]; exact hlw
            have hbs : bytes win = bytes (stepW win l1[k2]) := by rw [hw0]; rfl
            rw [hbs] at hg10
            rw [← stepW_length win l1[k2]] at hg10 hb10' ⊢
            have Hg10 := Lib.hid hg10
            have HW0 := Lib.hid hw0
            clear hg10 hg9 hb9 hRq hBq hw0 hbs fx
            have hl3 : (stepW win l1[k2]).length ≤ 3000 := by rw [stepW_length]; omega
            go_wp2_with fail
            refine (newRoller_win wq _ (stepW win l1[k2]) Hg10.out.sl (by omega)).mono ?_
            rintro e w11 ⟨p2, a2, c2, rfl, hp2, hr2, hR2, hbe⟩
            have HR2 := Lib.hid hR2
            have HRq := Lib.hid (HRq.out.kept (Upd.below hbe fun _ => False) id (fun _ _ => id))
            have Hg10 := Lib.hid (Hg10.out.kept (Upd.below hbe fun _ => False) (fun _ _ => id))
            have HBq := Lib.hid (HBq.out.upd (Nat.le_refl _) (Upd.below hbe fun _ => False) (fun _ h => h.elim))
            have hszq := Nat.le_trans hszq hbe.size
            have fx := (HBq.out.cell (block_lt_of_cell Fx.out)).trans Fx.out
            have hp2' : wr.heap.size ≤ p2 := by omega
            clear hR2 hbe
            go_wp2_with fail
            refine (rollerNext_win w11 p ar cr win l1[k2] _ rfl HRq.out).mono ?_
            rintro e w12 ⟨rfl, hR12, hu12⟩
            have hns : ∀ b, (b = p ∨ (Value.slice ar win.length cr).ownBlock = some b) → b < wr.heap.size ∧ w.heap.size ≤ b := by
              intro b hb
              rcases hb with rfl | hb
              · exact ⟨hpl.1, by omega⟩
              · have hb' : (Value.slice ar l0.length cr).ownBlock = some b := by rw [← Hwl.out]; exact hb
                exact ⟨hpl.2 b hb', by have := hr b hb'; omega⟩
            have Hg10 := Lib.hid (Hg10.out.kept hu12 (fun b hb h => by have := hb10' b hb; have := (hns b h).1; omega))
            have HR2 := Lib.hid (HR2.out.kept hu12 (fun h => by have := (hns _ h).1; omega) (fun b hb h => by have := (hns b h).1; have := hr2 b hb; omega))
            have HBq := Lib.hid (HBq.out.upd (Nat.le_refl _) hu12 (fun b hb => (hns b hb).2))
            have HR12 := Lib.hid hR12
            have hszq := Nat.le_trans hszq hu12.size
            clear hR12 hu12 fx
            go_wp2_with fail
            refine (refWeak_any w12 _ (stepW win l1[k2]) Hg10.out.sl hl3).mono ?_
            rintro e w' ⟨rfl, rfl⟩
            go_wp2_with fail
            refine (rollerSum_win w12 p ar cr _ HR12.out).mono ?_
            rintro e w13 ⟨rfl, hu13, hR13⟩
            have Hg10 := Lib.hid (Hg10.out.kept hu13 (fun _ _ => id))
            have HR2 := Lib.hid (HR2.out.kept hu13 id (fun _ _ => id))
            have HBq := Lib.hid (HBq.out.upd (Nat.le_refl _) hu13 (fun _ h => h.elim))
            have HR13 := Lib.hid hR13
            have hszq := Nat.le_trans hszq hu13.size
            clear hu13 hR13 HR12
            go_wp2_with fail
            refine (refWeak_any w13 _ (stepW win l1[k2]) Hg10.out.sl hl3).mono ?_
            rintro e w' ⟨rfl, rfl⟩
            by_cases h16 : k2 % 16 = 0
            · have h16' : (((k2 : Int) % 16) == 0) = true := by rw [beq_iff_eq]; omega
              go_wp2_with fail
              refine (rollerSum_win w13 p2 a2 c2 _ HR2.out).mono ?_
              rintro e w14 ⟨rfl, hu14, _⟩
              have Hg10 := Lib.hid (Hg10.out.kept hu14 (fun _ _ => id))
              have HR13 := Lib.hid (HR13.out.kept hu14 id (fun _ _ => id))
              have HBq := Lib.hid (HBq.out.upd (Nat.le_refl _) hu14 (fun _ h => h.elim))
              have hszq := Nat.le_trans hszq hu14.size
              clear hu14
              go_wp2_with fail
              refine (rollerSum_win w14 p ar cr _ HR13.out).mono ?_
              rintro e w15 ⟨rfl, hu15, hR13⟩
              have Hg10 := Lib.hid (Hg10.out.kept hu15 (fun _ _ => id))
              have HR13 := Lib.hid hR13
              have HBq := Lib.hid (HBq.out.upd (Nat.le_refl _) hu15 (fun _ h => h.elim))
              have hszq := Nat.le_trans hszq hu15.size
              clear hu15 hR13
              go_wp2_with fail
              go_roundw
              case rel => exact ⟨k2 + 1, stepW win l1[k2], a9, c9, hlt2, by go_num, rfl, by rw [stepW_length]; exact Hwl.out, Hg10.out, HR13.out, HBq.out, hszq, hb10'⟩
              case measure => simp [intOf]; omega
            · have h16' : (((k2 : Int) % 16) == 0) = false := by rw [beq_eq_false_iff_ne]; omega
              go_wp2_with fail
              go_roundw
              case rel => exact ⟨k2 + 1, stepW win l1[k2], a9, c9, hlt2, by go_num, rfl, by rw [stepW_length]; exact Hwl.out, Hg10.out, HR13.out, HBq.out, hszq, hb10'⟩
              case measure => simp [intOf]; omega
          · have hlw : 0 < win.length := List.length_pos_iff.2 hw0
            have hszb : ∀ w, (sizeOf (Try.prog.elem 22)).run Try.prog w = .ok 1 w := fun _ => by kernel_rfl
            obtain ⟨a', hsl, hown', hob, hsm⟩ := hg9.from Try.underlying22 hszb 1 1 rfl (by omega)
            simp only [Nat.one_mul] at hown'
            have Hown' := Lib.hid hown'
            have Hg9 := Lib.hid hg9
            have HRq := Lib.hid hRq
            have HBq := Lib.hid hBq
            clear hown' hg9 hRq hBq hszb
            go_wp2_with fail
            go_region_law ((refine step_append_any rfl _ _ 22 rfl 5 i0 (.int .u8 0) 1 1 Try.underlying22 hi hz0 hz1 hz2 rfl (by decide) (.slice a' (win.length - 1) (c9 - 1)) (win.length - 1) ((bytes win).drop 1) (.slice (some ⟨wq.heap.size, 0, none⟩) 1 1) 1 [.int .u8 l1[k2].toNat] rfl rfl (Hown'.out.kept ((Upd.refl (fun _ => False) wq).alloc _).drew (fun _ _ => id)) ((Sl.made wq 5 1 1 1 _ _ _ rfl rfl (by omega)).kept (Upd.refl (fun _ => False) _).drew (fun _ _ _ => id)) (by simp [Value.oneCell']) (by omega) (by omega) ?_; intro a10 c10 w10 hg10 hgr10 hb10))
            have hst : stepW win l1[k2] = win.tail ++ [l1[k2]] := by unfold stepW; rw [if_neg hw0]
            have hln : win.length - 1 + 1 = win.length := by omega
            have hbl : (bytes win).drop 1 ++ [.int .u8 l1[k2].toNat] = bytes (stepW win l1[k2]) := by
              rw [hst, bytes_append, List.drop_one]; simp [bytes, List.map_tail]
            have hgw : Upd (fun b => wr.heap.size ≤ b) wq w10 := (((Upd.refl _ _).alloc _).drew).grown hgr10 (fun b hb _ => hb9 b (hob b hb))
            have hb10' : ∀ k, (Value.slice a10 win.length c10).ownBlock = some k → wr.heap.size ≤ k := by
              intro b hb
              by_cases h : (Value.slice a' (win.length - 1) (c9 - 1)).ownBlock = some b
              · exact hb9 b (hob b h)
              · have := hb10 b h (by rw [hln]; exact hb)
                have : wq.heap.size + 1 ≤ b := by simpa using this
                omega
            rw [hbl, hln] at hg10
            rw [hln]
            rw [← stepW_length win l1[k2]] at hg10 hb10' ⊢
            have HRq := Lib.hid (HRq.out.kept hgw (by omega) (fun b hb h => by have := hpl.2 b (by rw [← Hwl.out]; exact hb); omega))
            have HBq := Lib.hid (HBq.out.upd (Nat.le_refl _) hgw (fun b hb => Nat.le_trans hsz hb))
            have hszq := Nat.le_trans hszq hgw.size
            have Hg10 := Lib.hid hg10
            have Hst := Lib.hid hst
            clear hst hln hbl hg10 hgw hgr10 hb10 hsl hob hsm Hown' Hg9 hb9 fx
            have hl3 : (stepW win l1[k2]).length ≤ 3000 := by rw [stepW_length]; omega
            go_wp2_with fail
            refine (newRoller_win w10 _ (stepW win l1[k2]) Hg10.out.sl (by omega)).mono ?_
            rintro e w11 ⟨p2, a2, c2, rfl, hp2, hr2, hR2, hbe⟩
            have HR2 := Lib.hid hR2
            have HRq := Lib.hid (HRq.out.kept (Upd.below hbe fun _ => False) id (fun _ _ => id))
            have Hg10 := Lib.hid (Hg10.out.kept (Upd.below hbe fun _ => False) (fun _ _ => id))
            have HBq := Lib.hid (HBq.out.upd (Nat.le_refl _) (Upd.below hbe fun _ => False) (fun _ h => h.elim))
            have hszq := Nat.le_trans hszq hbe.size
            have fx := (HBq.out.cell (block_lt_of_cell Fx.out)).trans Fx.out
            have hp2' : wr.heap.size ≤ p2 := by omega
            clear hR2 hbe
            go_wp2_with fail
            refine (rollerNext_win w11 p ar cr win l1[k2] _ rfl HRq.out).mono ?_
            rintro e w12 ⟨rfl, hR12, hu12⟩
            have hns : ∀ b, (b = p ∨ (Value.slice ar win.length cr).ownBlock = some b) → b < wr.heap.size ∧ w.heap.size ≤ b := by
              intro b hb
              rcases hb with rfl | hb
              · exact ⟨hpl.1, by omega⟩
              · have hb' : (Value.slice ar l0.length cr).ownBlock = some b := by rw [← Hwl.out]; exact hb
                exact ⟨hpl.2 b hb', by have := hr b hb'; omega⟩
            have Hg10 := Lib.hid (Hg10.out.kept hu12 (fun b hb h => by have := hb10' b hb; have := (hns b h).1; omega))
            have HR2 := Lib.hid (HR2.out.kept hu12 (fun h => by have := (hns _ h).1; omega) (fun b hb h => by have := (hns b h).1; have := hr2 b hb; omega))
            have HBq := Lib.hid (HBq.out.upd (Nat.le_refl _) hu12 (fun b hb => (hns b hb).2))
            have HR12 := Lib.hid hR12
            have hszq := Nat.le_trans hszq hu12.size
            clear hR12 hu12 fx
            go_wp2_with fail
            refine (refWeak_any w12 _ (stepW win l1[k2]) Hg10.out.sl hl3).mono ?_
            rintro e w' ⟨rfl, rfl⟩
            go_wp2_with fail
            refine (rollerSum_win w12 p ar cr _ HR12.out).mono ?_
            rintro e w13 ⟨rfl, hu13, hR13⟩
            have Hg10 := Lib.hid (Hg10.out.kept hu13 (fun _ _ => id))
            have HR2 := Lib.hid (HR2.out.kept hu13 id (fun _ _ => id))
            have HBq := Lib.hid (HBq.out.upd (Nat.le_refl _) hu13 (fun _ h => h.elim))
            have HR13 := Lib.hid hR13
            have hszq := Nat.le_trans hszq hu13.size
            clear hu13 hR13 HR12
            go_wp2_with fail
            refine (refWeak_any w13 _ (stepW win l1[k2]) Hg10.out.sl hl3).mono ?_
            rintro e w' ⟨rfl, rfl⟩
            by_cases h16 : k2 % 16 = 0
            · have h16' : (((k2 : Int) % 16) == 0) = true := by rw [beq_iff_eq]; omega
              go_wp2_with fail
              refine (rollerSum_win w13 p2 a2 c2 _ HR2.out).mono ?_
              rintro e w14 ⟨rfl, hu14, _⟩
              have Hg10 := Lib.hid (Hg10.out.kept hu14 (fun _ _ => id))
              have HR13 := Lib.hid (HR13.out.kept hu14 id (fun _ _ => id))
              have HBq := Lib.hid (HBq.out.upd (Nat.le_refl _) hu14 (fun _ h => h.elim))
              have hszq := Nat.le_trans hszq hu14.size
              clear hu14
              go_wp2_with fail
              refine (rollerSum_win w14 p ar cr _ HR13.out).mono ?_
              rintro e w15 ⟨rfl, hu15, hR13⟩
              have Hg10 := Lib.hid (Hg10.out.kept hu15 (fun _ _ => id))
              have HR13 := Lib.hid hR13
              have HBq := Lib.hid (HBq.out.upd (Nat.le_refl _) hu15 (fun _ h => h.elim))
              have hszq := Nat.le_trans hszq hu15.size
              clear hu15 hR13
              go_wp2_with fail
              go_roundw
              case rel => exact ⟨k2 + 1, stepW win l1[k2], a10, c10, hlt2, by go_num, rfl, by rw [stepW_length]; exact Hwl.out, Hg10.out, HR13.out, HBq.out, hszq, hb10'⟩
              case measure => simp [intOf]; omega
            · have h16' : (((k2 : Int) % 16) == 0) = false := by rw [beq_eq_false_iff_ne]; omega
              go_wp2_with fail
              go_roundw
              case rel => exact ⟨k2 + 1, stepW win l1[k2], a10, c10, hlt2, by go_num, rfl, by rw [stepW_length]; exact Hwl.out, Hg10.out, HR13.out, HBq.out, hszq, hb10'⟩
              case measure => simp [intOf]; omega
        · have HBq := Lib.hid hBq
          clear hg9 hRq hBq hb9
          go_wp2
          go_ret
          exact ⟨rfl, HBq.out⟩

theorem sumRolls_walk (w : World) (a0 a1 : Option Addr) (c0 c1 : Nat) (l0 l1 : List UInt8) (hs0 : Sl w 1 (.slice a0 l0.length c0) l0.length (bytes l0)) (hs1 : Sl w 1 (.slice a1 l1.length c1) l1.length (bytes l1))
    (h0m : l0.length ≤ 9223372036854775807) (h1m : l1.length ≤ 9223372036854775807) :
    Calls Try.prog 3 #[.slice a0 l0.length c0, .slice a1 l1.length c1] w fun e w' => e = .returned (.bool true) ∧ Below w.heap.size w w' := by
  by_cases h : 3000 < l0.length ∨ 3000 < l1.length ∨ 1048576 < l0.length * l1.length
  · exact early_any w a0 a1 _ c0 _ c1 h0m h1m h
  · have h3 : l0.length * l1.length ≤ 1048576 := by omega
    have e : ((l0.length * l1.length : Nat) : Int) = (l0.length : Int) * l1.length := Int.natCast_mul _ _
    exact sumRolls_main w a0 a1 c0 c1 l0 l1 hs0 hs1 (by omega) (by omega) (by omega) (by omega)
end Go.Proofs.Ytefobboakikpbaa
