/- The law SumDamage, walked. -/
import Derived.Test.YtefobboakikpbaaDoorDam
import Derived.Deep.RegionHeldLaw
namespace Go.Proofs.YtefobboakikpbaaDoor
open Go.RowKit
set_option linter.unusedVariables false
set_option linter.unusedSimpArgs false

theorem crc_quiet (w : World) (n m : Nat) (hf : FoursAt w) (a : Option Addr) (c : Nat) (l : List UInt8) (hl : Sl w 1 (.slice a n c) n (bytes l)) (hn : l.length = n) :
    Calls Tryd.prog 31 #[.slice a n c] (w.drewN m) fun e w' => e = .returned (.int .u32 (crc l : Nat)) ∧ ∃ k, w' = w.drewN k := by
  subst hn
  exact (crc_same (w.drewN m) (hf.kept ((Upd.refl (fun _ => False) w).drewN m) id) a c l (hl.kept ((Upd.refl (fun _ => False) w).drewN m) (fun _ _ _ => id))).mono fun _ _ ⟨he, hw⟩ => ⟨he, m, hw⟩
theorem crc_any' (w : World) (n : Nat) (hf : FoursAt w) (a : Option Addr) (c : Nat) (l : List UInt8) (hl : Sl w 1 (.slice a n c) n (bytes l)) (hn : l.length = n) :
    Calls Tryd.prog 31 #[.slice a n c] w fun e w' => e = .returned (.int .u32 (crc l : Nat)) ∧ Below w.heap.size w w' := by
  subst hn
  exact crc_any w hf a c l hl
theorem damage_early (w : World) (a : Option Addr) (n c : Nat) (z : Int) (x : Int) (hm : n ≤ 9223372036854775807) (h : 32768 < n) :
    Calls Tryd.prog 7 #[.slice a n c, .int .i64 z, .int .u32 x] w fun e w' => e = .returned (.bool true) ∧ Below w.heap.size w w' := by
  go_enter Tryd.func7, Tryd.ntmps7
  go_wp2
  go_ret
  exact ⟨rfl, Below.refl _ _⟩

set_option maxHeartbeats 4000000 in
set_option maxRecDepth 100000 in
theorem damage_any (w : World) (hk : KeysAt w) (hbg : BeginAt w) (hf : FoursAt w) (a : Option Addr) (c n : Nat) (l : List UInt8) (hl : Sl w 1 (.slice a n c) n (bytes l)) (hn : l.length = n) (hlc : n ≤ c) (hlen : n ≤ 32768)
    (z : Int) (hz1 : -9223372036854775808 ≤ z) (hz2 : z ≤ 9223372036854775807) (x : Nat) (hx : x < 4294967296) :
    Calls Tryd.prog 7 #[.slice a n c, .int .i64 z, .int .u32 (x : Nat)] w fun e w' => e = .returned (.bool true) ∧ Below w.heap.size w w' := by
  obtain ⟨i0, hi, hz0, hz1', hz2'⟩ := info_parts info_byte
  have Hf := Lib.hid hf
  have Hl := Lib.hid hl
  have Hn := Lib.hid hn
  have Hk := Lib.hid hk
  have Hbg := Lib.hid hbg
  clear hl hn hf hk hbg
  go_enter Tryd.func7, Tryd.ntmps7
  go_wp2_with fail
  refine (known_any w Hk.out Hbg.out Hf.out).mono ?_
  rintro e w1 ⟨rfl, hb1⟩
  have Hb1 := Lib.hid hb1
  clear hb1
  go_wp2_with fail
  refine (turned_any w1 a c n l (Hl.out.below Hb1.out) Hn.out (by omega) z hz1 hz2 x hx).mono ?_
  rintro e w2 ⟨a2, c2, y, rfl, hT, hc2, hsl, hb2⟩
  have Hb2 := Lib.hid (Hb1.out.trans (hb2.mono Hb1.out.size))
  have HT := Lib.hid hT
  have Hsl := Lib.hid hsl
  have Hyn := Lib.hid (show y.length = n from hT.1.trans Hn.out)
  clear hb2 hT hsl
  by_cases hyl : y = l
  · rw [show (!decide (y = l)) = false by simp [hyl]]
    clear hyl
    go_wp2_with (at_builtin; refine wpList_append_any rfl _ _ 24 rfl 5 i0 (.int .u8 0) 1 1 Tryd.underlying24 hi hz0 hz1' hz2' rfl (by decide) (.slice none 0 0) 0 [] _ n (bytes l) rfl rfl (Own.nil _ _ _) (Hl.out.below Hb2.out) (bytes_one l) (by omega) (by omega) ?_)
    intro a3 c3 w3 hg3 hgr3 hb3
    have hb3' : ∀ k, (Value.slice a3 n c3).ownBlock = some k → w.heap.size ≤ k := fun k hk => Nat.le_trans Hb2.out.size (hb3 k (by simp [Value.ownBlock]) (by simpa using hk))
    have hu3 := Hb2.out.grown hgr3 Hb2.out.size (by simp [Value.ownBlock])
    have Hg3 := Lib.hid hg3
    have Hu3 := Lib.hid hu3
    have Hb3 := Lib.hid hb3'
    obtain ⟨u, hu⟩ : ∃ u, u = crc l := ⟨_, rfl⟩
    have hu32 : u < 4294967296 := by rw [hu]; exact crc_lt _
    have Hu := Lib.hid hu
    clear hg3 hgr3 hb3 hu3 hb3' hu
    go_wp2_with fail
    refine (crc_any' w3 n (Hf.out.below Hu3.out) a c l (Hl.out.below Hu3.out) Hn.out).mono ?_
    rintro e w' ⟨rfl, hw⟩
    rw [← Hu.out]
    have Hw4 := Lib.hid hw
    clear hw
    go_wp2_with fail
    refine (four_any w' u hu32).mono ?_
    rintro e w5 ⟨rfl, hs5, hb5⟩
    have hb35 : Below w3.heap.size w3 w5 := below_on Hw4.out hb5
    have Hb35 := Lib.hid hb35
    have Hu5 := Lib.hid (Hu3.out.trans (hb35.mono Hu3.out.size))
    have Hs5 := Lib.hid hs5
    clear hb35 hb5 hs5
    go_wp2_with (at_builtin; refine wpList_append_any rfl _ _ 24 rfl 5 i0 (.int .u8 0) 1 1 Tryd.underlying24 hi hz0 hz1' hz2' rfl (by decide) (.slice a3 n c3) n (bytes l) (.slice (some ⟨w'.heap.size, 0, none⟩) 4 4) 4 (bytes (fourLow u)) rfl rfl (Hg3.out.kept (Upd.below Hb35.out fun _ => False) (fun _ _ => id)) Hs5.out (bytes_one _) (by omega) (by omega) ?_)
    intro a6 c6 w6 hg6 hgr6 hb6
    have hu6 := Hu5.out.upd (Nat.le_refl _) ((Upd.refl (fun b => w.heap.size ≤ b) _).grown hgr6 (fun b hb _ => Hb3.out b hb)) (fun _ h => h)
    rw [← bytes_append] at hg6
    have Hg6 := Lib.hid hg6
    have Hu6 := Lib.hid hu6
    have hLn : (l ++ fourLow u).length = n + 4 := by rw [List.length_append, Hn.out]; rfl
    have HLn := Lib.hid hLn
    obtain ⟨M, hM⟩ : ∃ M, M = n + 4 := ⟨_, rfl⟩
    have HgM : Hid (Own w6 5 1 (.slice a6 M c6) M (bytes (l ++ fourLow u))) := by rw [hM]; exact hg6
    rw [← hM]
    have HMn := Lib.hid hM
    have hM1 : n + 4 ≤ M := by omega
    have hM2 : M ≤ n + 4 := by omega
    clear hg6 hgr6 hb6 hu6 hLn hM Hg6
    go_wp2_with fail
    refine (turned_any w6 a6 c6 M (l ++ fourLow u) HgM.out.sl (by rw [HLn.out, HMn.out]) (by omega) z hz1 hz2 x hx).mono ?_
    rintro e w7 ⟨a7, c7, y2, rfl, hT2, hc7, hsl7, hb7⟩
    have Hb7 := Lib.hid (Hu6.out.trans (hb7.mono Hu6.out.size))
    have HT2 := Lib.hid hT2
    have Hs7 := Lib.hid hsl7
    have Hy2 := Lib.hid (show y2.length = M by rw [hT2.1, HLn.out, HMn.out])
    clear hb7 hT2 hsl7
    have hMi : (M : Int) - 4 = (n : Int) := by omega
    have hwr : IntKind.i64.wrap ((M : Int) - 4) = (n : Int) := by rw [hMi]; exact IntWalk.i64_in _ (by omega)
    by_cases hyl2 : y2 = l ++ fourLow u
    · rw [show (!decide (y2 = l ++ fourLow u)) = false by simp [hyl2]]
      clear hyl2
      go_wp2_with fail
      go_quiet (fail)
      go_wp2
      go_ret
      exact ⟨rfl, Hb7.out.upd (Nat.le_refl _) ((Upd.refl (fun _ => False) _).drewN nq) (fun _ h => h.elim)⟩
    · rw [show (!decide (y2 = l ++ fourLow u)) = true by simp [hyl2]]
      have Hyl2 := Lib.hid hyl2
      clear hyl2
      have hMle : n ≤ M := by omega
      obtain ⟨a8, _, hs8, _, hsl8, _⟩ := Hs7.out.cut Tryd.underlying24 size_byte n M hMle (Nat.le_refl _) hc7
      have hcut := fun w => hs8 w n rfl rfl
      have hsl9 := Hs7.out.to hMle
      simp only [Nat.mul_one] at hsl8
      have e8 : ((bytes y2).drop n).take (M - n) = bytes (y2.drop n) := by
        rw [List.take_of_length_le (by rw [List.length_drop, bytes_length, Hy2.out]; exact Nat.le_refl _)]; simp [bytes, List.map_drop]
      rw [e8] at hsl8
      have Hs8 := Lib.hid hsl8
      have Hs9 := Lib.hid hsl9
      have h9 : (y2.take n).length = n := by rw [List.length_take, Hy2.out]; omega
      have h8 : (y2.drop n).length = M - n := by rw [List.length_drop, Hy2.out]
      have H9 := Lib.hid h9
      have H8 := Lib.hid h8
      obtain ⟨v, hv⟩ : ∃ v, v = crc (y2.take n) := ⟨_, rfl⟩
      have hv32 : v < 4294967296 := by rw [hv]; exact crc_lt _
      have Hv := Lib.hid hv
      have hneq : y2.drop n ≠ fourLow v := by
        obtain ⟨hTl, s, d, hs, hdd, hnn⟩ := HT2.out
        have h := crc_own_turned l y2 (by rw [← Hu.out]; exact hTl) s d (by rw [hTl]; exact hs) hdd (by rw [← Hu.out]; exact hnn) (by rw [← Hu.out]; exact Hyl2.out)
        rw [Hn.out, ← hv] at h
        exact h
      have Hneq := Lib.hid hneq
      clear hs8 hsl8 hsl9 e8 h9 h8 hv hneq
      have Hkn := Lib.hid (Below.refl w7.heap.size w7)
      have j1 : (n : Int) ≤ (M : Int) := by omega
      have j2 : (n : Int) ≤ (c7 : Int) := by omega
      have j3 : (0 : Int) ≤ (n : Int) := by omega
      go_wp2_with fail
      go_region_held3 (fun w' => Below w7.heap.size w7 w') (first | assumption | exact Hkn.out | exact on_drew Hkn.out | exact on_alloc Hkn.out _)
        (first
        | (go_at_call 31; refine (crc_any' _ n ?_ a7 c7 (y2.take n) ?_ H9.out).mono ?_; exact (Hf.out.below Hb7.out).below (by assumption); exact Hs9.out.below (by assumption); rintro e wn ⟨rfl, hbn⟩; rw [← Hv.out]; have Hkn := Lib.hid (below_on (show Below w7.heap.size w7 _ by assumption) hbn); clear hbn)
        | (go_at_call 36; refine (four_any _ v hv32).mono ?_; rintro e wn ⟨rfl, hs4, hbn⟩; have Hs4 := Lib.hid hs4; have Hkn := Lib.hid (below_on (show Below w7.heap.size w7 _ by assumption) hbn); clear hbn hs4)
        | (go_at_call 33; refine (same_any _ _ _ _ _ (M - n) 4 (y2.drop n) (fourLow v) ?_ Hs4.out H8.out rfl).mono ?_; exact Hs8.out.below (by assumption); rintro e wn ⟨rfl, hbn⟩; rw [decide_eq_false Hneq.out]; have Hkn := Lib.hid (below_on (show Below w7.heap.size w7 _ by assumption) hbn); clear hbn))
      go_wp2
      go_ret
      exact ⟨rfl, Hb7.out.trans (Hkn.out.mono Hb7.out.size)⟩
  · rw [show (!decide (y = l)) = true by simp [hyl]]
    have hT := HT.out
    obtain ⟨hTl, s, d, hs, hdd, hnn⟩ := hT
    have hne := crc_turned y l hTl s d hs hdd hnn hyl
    obtain ⟨u1, hu1⟩ : ∃ u, u = crc y := ⟨_, rfl⟩
    obtain ⟨u2, hu2⟩ : ∃ u, u = crc l := ⟨_, rfl⟩
    rw [← hu1, ← hu2] at hne
    have hneq : ((u1 : Int) == (u2 : Int)) = false := by rw [beq_eq_false_iff_ne]; omega
    have Hu1 := Lib.hid hu1
    have Hu2 := Lib.hid hu2
    clear hTl hs hdd hnn hne hu1 hu2 hyl
    go_wp2_with fail
    refine (crc_any' w2 n (Hf.out.below Hb2.out) a2 c2 y Hsl.out Hyn.out).mono ?_
    rintro e wp ⟨rfl, hb⟩
    rw [← Hu1.out]
    have Hb2 := Lib.hid (Hb2.out.trans (hb.mono Hb2.out.size))
    clear hb
    go_wp2_with fail
    refine (crc_any' wp n (Hf.out.below Hb2.out) a c l (Hl.out.below Hb2.out) Hn.out).mono ?_
    rintro e wp2 ⟨rfl, hb⟩
    rw [← Hu2.out]
    have Hb2 := Lib.hid (Hb2.out.trans (hb.mono Hb2.out.size))
    clear hb
    go_wp2_with (at_builtin; refine wpList_append_any rfl _ _ 24 rfl 5 i0 (.int .u8 0) 1 1 Tryd.underlying24 hi hz0 hz1' hz2' rfl (by decide) (.slice none 0 0) 0 [] _ n (bytes l) rfl rfl (Own.nil _ _ _) (Hl.out.below Hb2.out) (bytes_one l) (by omega) (by omega) ?_)
    intro a3 c3 w3 hg3 hgr3 hb3
    have hb3' : ∀ k, (Value.slice a3 n c3).ownBlock = some k → w.heap.size ≤ k := fun k hk => Nat.le_trans Hb2.out.size (hb3 k (by simp [Value.ownBlock]) (by simpa using hk))
    have hu3 := Hb2.out.grown hgr3 Hb2.out.size (by simp [Value.ownBlock])
    have Hg3 := Lib.hid hg3
    have Hu3 := Lib.hid hu3
    have Hb3 := Lib.hid hb3'
    obtain ⟨u, hu⟩ : ∃ u, u = crc l := ⟨_, rfl⟩
    have hu32 : u < 4294967296 := by rw [hu]; exact crc_lt _
    have Hu := Lib.hid hu
    clear hg3 hgr3 hb3 hu3 hb3' hu
    go_wp2_with fail
    refine (crc_any' w3 n (Hf.out.below Hu3.out) a c l (Hl.out.below Hu3.out) Hn.out).mono ?_
    rintro e w' ⟨rfl, hw⟩
    rw [← Hu.out]
    have Hw4 := Lib.hid hw
    clear hw
    go_wp2_with fail
    refine (four_any w' u hu32).mono ?_
    rintro e w5 ⟨rfl, hs5, hb5⟩
    have hb35 : Below w3.heap.size w3 w5 := below_on Hw4.out hb5
    have Hb35 := Lib.hid hb35
    have Hu5 := Lib.hid (Hu3.out.trans (hb35.mono Hu3.out.size))
    have Hs5 := Lib.hid hs5
    clear hb35 hb5 hs5
    go_wp2_with (at_builtin; refine wpList_append_any rfl _ _ 24 rfl 5 i0 (.int .u8 0) 1 1 Tryd.underlying24 hi hz0 hz1' hz2' rfl (by decide) (.slice a3 n c3) n (bytes l) (.slice (some ⟨w'.heap.size, 0, none⟩) 4 4) 4 (bytes (fourLow u)) rfl rfl (Hg3.out.kept (Upd.below Hb35.out fun _ => False) (fun _ _ => id)) Hs5.out (bytes_one _) (by omega) (by omega) ?_)
    intro a6 c6 w6 hg6 hgr6 hb6
    have hu6 := Hu5.out.upd (Nat.le_refl _) ((Upd.refl (fun b => w.heap.size ≤ b) _).grown hgr6 (fun b hb _ => Hb3.out b hb)) (fun _ h => h)
    rw [← bytes_append] at hg6
    have Hg6 := Lib.hid hg6
    have Hu6 := Lib.hid hu6
    have hLn : (l ++ fourLow u).length = n + 4 := by rw [List.length_append, Hn.out]; rfl
    have HLn := Lib.hid hLn
    obtain ⟨M, hM⟩ : ∃ M, M = n + 4 := ⟨_, rfl⟩
    have HgM : Hid (Own w6 5 1 (.slice a6 M c6) M (bytes (l ++ fourLow u))) := by rw [hM]; exact hg6
    rw [← hM]
    have HMn := Lib.hid hM
    have hM1 : n + 4 ≤ M := by omega
    have hM2 : M ≤ n + 4 := by omega
    clear hg6 hgr6 hb6 hu6 hLn hM Hg6
    go_wp2_with fail
    refine (turned_any w6 a6 c6 M (l ++ fourLow u) HgM.out.sl (by rw [HLn.out, HMn.out]) (by omega) z hz1 hz2 x hx).mono ?_
    rintro e w7 ⟨a7, c7, y2, rfl, hT2, hc7, hsl7, hb7⟩
    have Hb7 := Lib.hid (Hu6.out.trans (hb7.mono Hu6.out.size))
    have HT2 := Lib.hid hT2
    have Hs7 := Lib.hid hsl7
    have Hy2 := Lib.hid (show y2.length = M by rw [hT2.1, HLn.out, HMn.out])
    clear hb7 hT2 hsl7
    have hMi : (M : Int) - 4 = (n : Int) := by omega
    have hwr : IntKind.i64.wrap ((M : Int) - 4) = (n : Int) := by rw [hMi]; exact IntWalk.i64_in _ (by omega)
    by_cases hyl2 : y2 = l ++ fourLow u
    · rw [show (!decide (y2 = l ++ fourLow u)) = false by simp [hyl2]]
      clear hyl2
      go_wp2_with fail
      go_quiet (fail)
      go_wp2
      go_ret
      exact ⟨rfl, Hb7.out.upd (Nat.le_refl _) ((Upd.refl (fun _ => False) _).drewN nq) (fun _ h => h.elim)⟩
    · rw [show (!decide (y2 = l ++ fourLow u)) = true by simp [hyl2]]
      have Hyl2 := Lib.hid hyl2
      clear hyl2
      have hMle : n ≤ M := by omega
      obtain ⟨a8, _, hs8, _, hsl8, _⟩ := Hs7.out.cut Tryd.underlying24 size_byte n M hMle (Nat.le_refl _) hc7
      have hcut := fun w => hs8 w n rfl rfl
      have hsl9 := Hs7.out.to hMle
      simp only [Nat.mul_one] at hsl8
      have e8 : ((bytes y2).drop n).take (M - n) = bytes (y2.drop n) := by
        rw [List.take_of_length_le (by rw [List.length_drop, bytes_length, Hy2.out]; exact Nat.le_refl _)]; simp [bytes, List.map_drop]
      rw [e8] at hsl8
      have Hs8 := Lib.hid hsl8
      have Hs9 := Lib.hid hsl9
      have h9 : (y2.take n).length = n := by rw [List.length_take, Hy2.out]; omega
      have h8 : (y2.drop n).length = M - n := by rw [List.length_drop, Hy2.out]
      have H9 := Lib.hid h9
      have H8 := Lib.hid h8
      obtain ⟨v, hv⟩ : ∃ v, v = crc (y2.take n) := ⟨_, rfl⟩
      have hv32 : v < 4294967296 := by rw [hv]; exact crc_lt _
      have Hv := Lib.hid hv
      have hneq : y2.drop n ≠ fourLow v := by
        obtain ⟨hTl, s, d, hs, hdd, hnn⟩ := HT2.out
        have h := crc_own_turned l y2 (by rw [← Hu.out]; exact hTl) s d (by rw [hTl]; exact hs) hdd (by rw [← Hu.out]; exact hnn) (by rw [← Hu.out]; exact Hyl2.out)
        rw [Hn.out, ← hv] at h
        exact h
      have Hneq := Lib.hid hneq
      clear hs8 hsl8 hsl9 e8 h9 h8 hv hneq
      have Hkn := Lib.hid (Below.refl w7.heap.size w7)
      have j1 : (n : Int) ≤ (M : Int) := by omega
      have j2 : (n : Int) ≤ (c7 : Int) := by omega
      have j3 : (0 : Int) ≤ (n : Int) := by omega
      go_wp2_with fail
      go_region_held3 (fun w' => Below w7.heap.size w7 w') (first | assumption | exact Hkn.out | exact on_drew Hkn.out | exact on_alloc Hkn.out _)
        (first
        | (go_at_call 31; refine (crc_any' _ n ?_ a7 c7 (y2.take n) ?_ H9.out).mono ?_; exact (Hf.out.below Hb7.out).below (by assumption); exact Hs9.out.below (by assumption); rintro e wn ⟨rfl, hbn⟩; rw [← Hv.out]; have Hkn := Lib.hid (below_on (show Below w7.heap.size w7 _ by assumption) hbn); clear hbn)
        | (go_at_call 36; refine (four_any _ v hv32).mono ?_; rintro e wn ⟨rfl, hs4, hbn⟩; have Hs4 := Lib.hid hs4; have Hkn := Lib.hid (below_on (show Below w7.heap.size w7 _ by assumption) hbn); clear hbn hs4)
        | (go_at_call 33; refine (same_any _ _ _ _ _ (M - n) 4 (y2.drop n) (fourLow v) ?_ Hs4.out H8.out rfl).mono ?_; exact Hs8.out.below (by assumption); rintro e wn ⟨rfl, hbn⟩; rw [decide_eq_false Hneq.out]; have Hkn := Lib.hid (below_on (show Below w7.heap.size w7 _ by assumption) hbn); clear hbn))
      go_wp2
      go_ret
      exact ⟨rfl, Hb7.out.trans (Hkn.out.mono Hb7.out.size)⟩
end Go.Proofs.YtefobboakikpbaaDoor
