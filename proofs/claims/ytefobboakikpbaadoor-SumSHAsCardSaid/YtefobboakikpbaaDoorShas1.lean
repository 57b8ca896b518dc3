/- Lists of lists of bytes: counted, joined, copied, compared. -/
import Derived.Test.YtefobboakikpbaaDoorPlay1
namespace Go.Proofs.YtefobboakikpbaaDoor
open Go.RowKit
set_option linter.unusedVariables false
set_option linter.unusedSimpArgs false

theorem Parts.at {w : World} {a : Option Addr} {m c : Nat} {Ps : List (List UInt8)} (h : Parts w (.slice a m c) Ps) (hm : Ps.length = m) {i : Nat} (hi : i < m) :
    ∃ g off ai ci n, a = some ⟨g, off, none⟩ ∧ w.cell? ⟨g, off + i, none⟩ = some (.slice ai n ci) ∧ (Ps.getD i []).length = n ∧ Sl w 1 (.slice ai n ci) n (bytes (Ps.getD i [])) ∧ n ≤ 9223372036854775807 := by
  subst hm
  obtain ⟨vs, h1, h2⟩ := h
  obtain ⟨ai, ci, h3, h4⟩ := h2 i hi
  have hl : 0 < vs.length := by have := (List.getElem?_eq_some_iff.1 h3).1; omega
  obtain ⟨g, off, rfl, _, hc⟩ := h1.open_ hl
  refine ⟨g, off, ai, ci, _, rfl, hc i _ h3, rfl, h4, ?_⟩
  obtain ⟨_, _, _, _, hm, _⟩ := h4
  exact hm
set_option maxHeartbeats 1000000 in
set_option maxRecDepth 100000 in
theorem countChunks_any (w0 w : World) (hb0 : Below w0.heap.size w0 w) (p : Nat) (hp0 : w0.heap.size ≤ p) (hc : CountAt w p 32768) (a : Option Addr) (c m : Nat) (Ps : List (List UInt8)) (hP : Parts w0 (.slice a m c) Ps) (hm : Ps.length = m) (hm2 : m ≤ 9223372036854775807) :
    Calls Tryd.prog 43 #[.pointer (some ⟨p, 0, none⟩), .slice a m c] w fun e w' => e = .returned (.tuple #[]) ∧ ∃ z : Int, CountAt w' p z ∧ (0 ≤ z → m + (joinTo Ps m).length ≤ 32768) ∧ Below w0.heap.size w0 w' := by
  have Hc := Lib.hid hc
  have HP := Lib.hid hP
  have Hm := Lib.hid hm
  have Hb0 := Lib.hid hb0
  clear hc hP hm hb0
  go_enter Tryd.func43, Tryd.ntmps43
  go_wp2_with fail
  go_loopw [4] (fun i wr => ∃ (k : Nat) (z : Int), k ≤ m ∧ i = .int .i64 k ∧ CountAt wr p z ∧ z ≤ 32768 ∧ (0 ≤ z → z = 32768 - (k + (joinTo Ps k).length)) ∧ Below w0.heap.size w0 wr) (fun i _ => m - (intOf i).toNat)
  case atStart => exact ⟨0, 32768, Nat.zero_le _, rfl, Hc.out, by omega, fun _ => by simp [joinTo], Hb0.out⟩
  case round =>
    obtain ⟨k, z, hkm, rfl, hz, hz1, hz2, hbe⟩ := hrel
    have Hz := Lib.hid hz
    have Hz2 := Lib.hid hz2
    have Hbe := Lib.hid hbe
    clear hz hz2 hbe
    by_cases hgo : k < m ∧ 0 ≤ z
    · obtain ⟨hlt, hz0⟩ := hgo
      have i2 : (k : Int) < (m : Int) := by omega
      have hz100 : z ≤ 100000 := by omega
      go_wp2_with fail
      refine (countOk_any wr p z Hz.out).mono ?_
      rintro e w' ⟨rfl, hw⟩
      obtain rfl := hw.symm
      rw [show decide (0 ≤ z) = true by simp [hz0]]
      obtain ⟨g, off, ai, ci, n, rfl, c0, hn, hs, hn2⟩ := (HP.out.below Hbe.out).at Hm.out hlt
      have Hn := Lib.hid hn
      have i1 : (0 : Int) ≤ (k : Int) := by omega
      clear hs hn
      go_wp2_with fail
      refine (countAdd_any wr p z 1 Hz.out hz100 (.inl ⟨by decide, by decide⟩)).mono ?_
      rintro e w1 ⟨b1, z1, rfl, hc1, hz1', hz1n, hu1⟩
      have hb1 : Below w0.heap.size w0 w1 := Hbe.out.upd (Nat.le_refl _) hu1 (fun b hb => by omega)
      have hg : g < w0.heap.size := by
        obtain ⟨g2, off2, _, _, _, he, hc2, _⟩ := HP.out.at Hm.out hlt
        injection he with he
        injection he with he1 he2
        subst he1 he2
        exact World.block_lt_of_cell? w0 _ hc2
      have c0' := (hb1.cell (p := ⟨g, off + k, none⟩) hg).trans ((Hbe.out.cell (p := ⟨g, off + k, none⟩) hg).symm.trans c0)
      have Hc1 := Lib.hid hc1
      have Hz1 := Lib.hid hz1'
      have Hz1n := Lib.hid hz1n
      have Hb1 := Lib.hid hb1
      have hz2' : z1 ≤ 100000 := by rcases hz1' with h | ⟨_, _, h⟩ <;> omega
      clear hc1 hz1' hz1n hb1 hu1 c0
      go_wp2_with fail
      refine (countAdd_any w1 p z1 n Hc1.out hz2' (.inl ⟨by omega, by omega⟩)).mono ?_
      rintro e w2 ⟨b2, z2, rfl, hc2, hz2'', hz2n, hu2⟩
      have Hc2 := Lib.hid hc2
      have Hz3 := Lib.hid hz2''
      have Hu2 := Lib.hid hu2
      clear hc2 hz2'' hz2n hu2 c0'
      go_wp2
      go_roundw
      case rel =>
        have hj := joinTo_succ Ps k (by rw [Hm.out]; exact hlt)
        have hn := Hn.out
        have hzz := Hz2.out hz0
        refine ⟨k + 1, z2, hlt, by go_num, Hc2.out, ?_, ?_, Hb1.out.upd (Nat.le_refl _) Hu2.out (fun b hb => by omega)⟩
        · rcases Hz3.out with h | ⟨_, _, h⟩
          · omega
          · rcases Hz1.out with h1 | ⟨_, _, h1⟩ <;> omega
        · intro h0
          rw [hj, List.length_append, hn]
          rcases Hz3.out with h | ⟨h2, _, h⟩
          · omega
          · rcases Hz1.out with h1 | ⟨_, _, h1⟩
            · omega
            · omega
      case measure => simp [intOf]; omega
    · by_cases hz0 : 0 ≤ z
      · have hkm2 : k = m := by omega
        subst hkm2
        go_wp2
        go_end0
        exact ⟨rfl, z, Hz.out, fun h => by have := Hz2.out h; omega, Hbe.out⟩
      · have hz9 : decide (0 ≤ z) = false := by simp; omega
        by_cases hkm2 : k = m
        · subst hkm2
          go_wp2
          go_end0
          exact ⟨rfl, z, Hz.out, fun h => by have := Hz2.out h; omega, Hbe.out⟩
        · have i2 : (k : Int) < (m : Int) := by omega
          go_wp2_with fail
          refine (countOk_any wr p z Hz.out).mono ?_
          rintro e w' ⟨rfl, hw⟩
          obtain rfl := hw.symm
          rw [hz9]
          go_wp2
          go_end0
          exact ⟨rfl, z, Hz.out, fun h => by omega, Hbe.out⟩
theorem few_any (w : World) (a : Option Addr) (c m : Nat) (Ps : List (List UInt8)) (hP : Parts w (.slice a m c) Ps) (hm : Ps.length = m) (hm2 : m ≤ 9223372036854775807) :
    Calls Tryd.prog 20 #[.slice a m c] w fun e w' => ∃ b : Bool, e = .returned (.bool b) ∧ (b = true → m + (joinTo Ps m).length ≤ 32768) ∧ Below w.heap.size w w' := by
  have HP := Lib.hid hP
  have Hm := Lib.hid hm
  clear hP hm
  go_enter Tryd.func20, Tryd.ntmps20
  go_wp2_with fail
  refine (many_any w 32768).mono ?_
  rintro e w1 ⟨rfl, hc1, hb1⟩
  have Hc1 := Lib.hid hc1
  have Hb1 := Lib.hid hb1
  clear hc1 hb1
  go_wp2_with fail
  refine (countChunks_any w w1 Hb1.out _ (Nat.le_refl _) Hc1.out a c m Ps HP.out Hm.out hm2).mono ?_
  rintro e w2 ⟨rfl, z, hc2, hz, hb2⟩
  have Hc2 := Lib.hid hc2
  have Hz := Lib.hid hz
  have Hb2 := Lib.hid hb2
  clear hc2 hz hb2
  go_wp2_with fail
  refine (countOk_any w2 _ z Hc2.out).mono ?_
  rintro e w' ⟨rfl, hw⟩
  obtain rfl := hw.symm
  go_wp2
  go_ret
  exact ⟨_, rfl, fun h => Hz.out (by simpa using h), Hb2.out⟩
theorem Grow8.more {w wr w' : World} {v v' : Value} {n m : Nat} {l x : List UInt8} (h : Grow8 w wr v n l) (hown : Own w' 5 1 v' (n + m) (bytes l ++ bytes x))
    (hgr : wr.grownBy w' v.ownBlock) (hb : ∀ k, v.ownBlock ≠ some k → v'.ownBlock = some k → wr.heap.size ≤ k) : Grow8 w w' v' (n + m) (l ++ x) := by
  obtain ⟨h1, h2, h3⟩ := h
  refine ⟨by rw [bytes_append]; exact hown, fun k hk => ?_, h3.grown hgr h3.size (fun k hk => h2 k hk)⟩
  by_cases hv : v.ownBlock = some k
  · exact h2 k hv
  · have := hb k hv hk
    have := h3.size
    omega
set_option maxHeartbeats 1000000 in
set_option maxRecDepth 100000 in
theorem joined_any (w : World) (a : Option Addr) (c m : Nat) (Ps : List (List UInt8)) (hP : Parts w (.slice a m c) Ps) (hm : Ps.length = m) (hsum : m + (joinTo Ps m).length ≤ 32768) :
    Calls Tryd.prog 23 #[.slice a m c] w fun e w' => ∃ (aj : Option Addr) (cj n : Nat), e = .returned (.slice aj n cj) ∧ n = Ps.flatten.length ∧ n ≤ 32768 ∧ Sl w' 1 (.slice aj n cj) n (bytes Ps.flatten) ∧ Below w.heap.size w w' := by
  obtain ⟨i0, hi, hz0, hz1, hz2⟩ := info_parts info_byte
  have hml : m ≤ 32768 := by omega
  have hle : ∀ k, k ≤ m → (joinTo Ps k).length ≤ 32768 := fun k hk => by
    have h1 := joinTo_le Ps k
    have h2 : joinTo Ps m = Ps.flatten := by unfold joinTo; rw [List.take_of_length_le (by omega)]
    rw [h2] at hsum
    omega
  have HP := Lib.hid hP
  have Hm := Lib.hid hm
  have Hle := Lib.hid hle
  clear hP hm hle hsum
  go_enter Tryd.func23, Tryd.ntmps23
  go_wp2_with fail
  go_loopw [3, 4] (fun v i wr => ∃ (k q : Nat) (a3 : Option Addr) (c3 : Nat), k ≤ m ∧ i = .int .i64 k ∧ v = .slice a3 q c3 ∧ q = (joinTo Ps k).length ∧ Grow8 w wr (.slice a3 q c3) q (joinTo Ps k)) (fun _ i _ => m - (intOf i).toNat)
  case atStart => exact ⟨0, 0, none, 0, Nat.zero_le _, rfl, rfl, by simp [joinTo], (⟨Own.nil _ _ _, by simp [Value.ownBlock], Below.refl _ _⟩ : Grow8 w w (.slice none 0 0) 0 [])⟩
  case round =>
    obtain ⟨k, q, a3, c3, hk, rfl, rfl, hq, hg⟩ := hrel
    have hq32 : q ≤ 32768 := by rw [hq]; exact Hle.out k hk
    have Hg := Lib.hid hg
    have Hq := Lib.hid hq
    clear hg hq
    by_cases hlt : k < m
    · obtain ⟨g, off, ai, ci, n, rfl, c0, hn, hs, hn2⟩ := (HP.out.below Hg.out.2.2).at Hm.out hlt
      have Hn := Lib.hid hn
      have Hs := Lib.hid hs
      have hj := joinTo_succ Ps k (by rw [Hm.out]; exact hlt)
      have hn32 : n ≤ 32768 := by
        have := Hle.out (k + 1) hlt
        rw [hj, List.length_append, hn] at this
        omega
      have Hj := Lib.hid hj
      have i1 : (0 : Int) ≤ (k : Int) := by omega
      have i2 : (k : Int) < (m : Int) := by omega
      clear hn hs hj
      go_wp2_with (at_builtin; refine wpList_append_any rfl _ _ 24 rfl 5 i0 (.int .u8 0) 1 1 Tryd.underlying24 hi hz0 hz1 hz2 rfl (by decide) (.slice a3 q c3) q (bytes (joinTo Ps k)) (.slice ai n ci) n (bytes (Ps.getD k [])) rfl rfl Hg.out.1 Hs.out (bytes_one _) (by omega) (by omega) ?_)
      intro a4 c4 w4 hown4 hgr4 hb4
      have Hg4 := Lib.hid (Hg.out.more hown4 hgr4 hb4)
      clear hown4 hgr4 hb4
      go_wp2
      go_roundw
      case rel => exact ⟨k + 1, q + n, a4, c4, hlt, by go_num, rfl, by rw [Hj.out, List.length_append, ← Hq.out, Hn.out], by rw [Hj.out]; exact Hg4.out⟩
      case measure => simp [intOf]; omega
    · obtain rfl : k = m := by omega
      have hfl : joinTo Ps k = Ps.flatten := by unfold joinTo; rw [List.take_of_length_le (by rw [Hm.out]; exact Nat.le_refl _)]
      have Hfl := Lib.hid hfl
      clear hfl
      go_wp2
      go_ret
      refine ⟨a3, c3, q, rfl, by rw [← Hfl.out]; exact Hq.out, hq32, ?_, Hg.out.2.2⟩
      rw [← Hfl.out]
      exact Hg.out.1.sl
/-- Slices of the call's own, which read so. -/
def OwnsIn (w : World) (B : Nat) (vs : List Value) (Ps : List (List UInt8)) : Prop :=
  vs.length = Ps.length ∧ ∀ i, i < Ps.length → ∃ a c, vs[i]? = some (.slice a (Ps.getD i []).length c) ∧ Own w 5 1 (.slice a (Ps.getD i []).length c) (Ps.getD i []).length (bytes (Ps.getD i []))
theorem OwnsIn.kept {S : Nat → Prop} {w w' : World} {B : Nat} {vs : List Value} {Ps : List (List UInt8)} (h : OwnsIn w B vs Ps) (hu : Upd S w w') (hS : ∀ n v xs k, Own w 5 1 v n xs → v.ownBlock = some k → ¬ S k) : OwnsIn w' B vs Ps :=
  ⟨h.1, fun i hi => by obtain ⟨a, c, h1, h2⟩ := h.2 i hi; exact ⟨a, c, h1, h2.kept hu (fun k hk => hS _ _ _ k h2 hk)⟩⟩
theorem OwnsIn.push {w : World} {B : Nat} {vs : List Value} {Ps : List (List UInt8)} (h : OwnsIn w B vs Ps) (a : Option Addr) (c : Nat) (x : List UInt8) (n : Nat) (hn : x.length = n) (hs : Own w 5 1 (.slice a n c) n (bytes x)) : OwnsIn w B (vs ++ [.slice a n c]) (Ps ++ [x]) := by
  subst hn
  refine ⟨by simp [h.1], fun i hi => ?_⟩
  by_cases hl : i < Ps.length
  · obtain ⟨a1, c1, h1, h2⟩ := h.2 i hl
    refine ⟨a1, c1, ?_, ?_⟩
    · rw [List.getElem?_append_left (by rw [h.1]; exact hl), h1]; simp [List.getD_eq_getElem?_getD, List.getElem?_append_left hl]
    · rw [show (Ps ++ [x]).getD i [] = Ps.getD i [] by simp [List.getD_eq_getElem?_getD, List.getElem?_append_left hl]]; exact h2
  · have hi2 : i = Ps.length := by simp at hi; omega
    subst hi2
    have e : (Ps ++ [x]).getD Ps.length [] = x := by simp [List.getD_eq_getElem?_getD]
    rw [e]
    exact ⟨a, c, by rw [← h.1]; simp, hs⟩
theorem take_next (Ps : List (List UInt8)) (k : Nat) (h : k < Ps.length) : Ps.take (k + 1) = Ps.take k ++ [Ps.getD k []] := by
  rw [List.take_succ_eq_append_getElem h, List.getD_eq_getElem?_getD, List.getElem?_eq_getElem h, Option.getD_some]
set_option maxHeartbeats 1000000 in
set_option maxRecDepth 100000 in
theorem copies_any (w : World) (a : Option Addr) (c m : Nat) (Ps : List (List UInt8)) (hP : Parts w (.slice a m c) Ps) (hm : Ps.length = m) (hsum : m + (joinTo Ps m).length ≤ 32768) :
    Calls Tryd.prog 26 #[.slice a m c] w fun e w' => ∃ (aj : Option Addr) (cj : Nat), e = .returned (.slice aj m cj) ∧ Parts w' (.slice aj m cj) Ps ∧ Below w.heap.size w w' := by
  obtain ⟨i0, hi, hz0, hz1, hz2⟩ := info_parts info_byte
  obtain ⟨i1, hi1, hy0, hy1, hy2⟩ := info_parts info_bytes
  have hml : m ≤ 32768 := by omega
  have hle : ∀ k, k < m → (Ps.getD k []).length ≤ 32768 := fun k hk => by
    have h1 := joinTo_le Ps (k + 1)
    have h2 : joinTo Ps m = Ps.flatten := by unfold joinTo; rw [List.take_of_length_le (by omega)]
    rw [h2] at hsum
    rw [joinTo_succ Ps k (by omega), List.length_append] at h1
    omega
  have HP := Lib.hid hP
  have Hm := Lib.hid hm
  have Hle := Lib.hid hle
  clear hP hm hle hsum
  go_enter Tryd.func26, Tryd.ntmps26
  go_wp2_with fail
  go_loopw [3, 4] (fun v i wr => ∃ (k : Nat) (a3 : Option Addr) (c3 : Nat) (vs : List Value), k ≤ m ∧ i = .int .i64 k ∧ v = .slice a3 k c3 ∧ Own wr 24 1 (.slice a3 k c3) k vs ∧ (∀ b, (Value.slice a3 k c3).ownBlock = some b → w.heap.size ≤ b) ∧ OwnsIn wr 0 vs (Ps.take k) ∧ Below w.heap.size w wr) (fun _ i _ => m - (intOf i).toNat)
  case atStart => exact ⟨0, none, 0, [], Nat.zero_le _, rfl, rfl, Own.nil _ _ _, by simp [Value.ownBlock], ⟨by simp, fun i hi => by simp at hi⟩, Below.refl _ _⟩
  case round =>
    obtain ⟨k, a3, c3, vs, hk, rfl, rfl, hown, hob, hin, hbe⟩ := hrel
    have Hown := Lib.hid hown
    have Hob := Lib.hid hob
    have Hin := Lib.hid hin
    have Hbe := Lib.hid hbe
    clear hown hob hin hbe
    by_cases hlt : k < m
    · obtain ⟨g, off, ai, ci, n, rfl, c0, hn, hs, hn2⟩ := (HP.out.below Hbe.out).at Hm.out hlt
      have hn32 : n ≤ 32768 := by rw [← hn]; exact Hle.out k hlt
      have hj := take_next Ps k (by rw [Hm.out]; exact hlt)
      obtain ⟨x, hx⟩ : ∃ x, x = Ps.getD k [] := ⟨_, rfl⟩
      rw [← hx] at hn hs hj
      have Hn := Lib.hid hn
      have Hs := Lib.hid hs
      clear hx
      have Hj := Lib.hid hj
      have j1 : (0 : Int) ≤ (k : Int) := by omega
      have j2 : (k : Int) < (m : Int) := by omega
      clear hn hs hj
      go_wp2_with (at_builtin; refine wpList_append_any rfl _ _ 24 rfl 5 i0 (.int .u8 0) 1 1 Tryd.underlying24 hi hz0 hz1 hz2 rfl (by decide) (.slice none 0 0) 0 [] (.slice ai n ci) n (bytes x) rfl rfl (Own.nil _ _ _) Hs.out (bytes_one _) (by omega) (by omega) ?_)
      intro a4 c4 w4 hown4 hgr4 hb4
      have hu4 : Upd (fun _ => False) wr w4 := (Upd.refl _ _).grown hgr4 (fun k hk => by simp [Value.ownBlock] at hk)
      have Hown' := Lib.hid (Hown.out.kept hu4 (fun _ _ => id))
      have Hin' := Lib.hid (Hin.out.kept hu4 (fun _ _ _ _ _ _ => id))
      have Hown4 := Lib.hid hown4
      have Hbe4 := Lib.hid (Hbe.out.upd (Nat.le_refl _) hu4 (fun _ h => h.elim))
      have hal := Lib.hid (fun k hk => hb4 k (by simp [Value.ownBlock]) hk)
      clear hu4 hown4 hgr4 hb4 Hown Hin c0
      go_wp2_with (at_builtin; refine wpList_append_any rfl _ _ 44 rfl 24 i1 (.slice none 0 0) 1 24 Tryd.underlying44 hi1 hy0 hy1 hy2 rfl (by decide) (.slice a3 k c3) k vs (.slice (some ⟨w4.heap.size, 0, none⟩) 1 1) 1 [.slice a4 n c4] rfl rfl (Hown'.out.kept ((Upd.refl (fun _ => False) w4).alloc _) (fun _ _ => id)) (Sl.made _ _ _ _ _ _ _ _ rfl rfl (by omega)) (by simp [Value.oneCell']) (by omega) (by omega) ?_)
      intro a5 c5 w5 hown5 hgr5 hb5
      have hu5 : Upd (fun b => (Value.slice a3 k c3).ownBlock = some b) w4 w5 := Upd.grown ((Upd.refl _ w4).alloc _) hgr5 (fun b hb _ => hb)
      have hne : ∀ n v xs b, Own w4 5 1 v n xs → v.ownBlock = some b → ¬ (Value.slice a3 k c3).ownBlock = some b := fun n v xs b ho hb => ho.parted Hown'.out (by decide) b hb
      have Hin5 := Lib.hid ((Hin'.out.kept hu5 hne).push a4 c4 x n Hn.out (Hown4.out.kept hu5 (fun b hb => hne _ _ _ b Hown4.out hb)))
      have Hown5 := Lib.hid hown5
      have Hb5 := Lib.hid hb5
      have Hbe5 := Lib.hid (Hbe4.out.upd (Nat.le_refl _) hu5 (fun b hb => Hob.out b hb))
      clear hown5 hgr5 hb5 hu5 hne
      go_wp2
      go_roundw
      case rel =>
        refine ⟨k + 1, a5, c5, vs ++ [.slice a4 n c4], hlt, by go_num, rfl, Hown5.out, fun b hb => ?_, by rw [Hj.out]; exact Hin5.out, Hbe5.out⟩
        by_cases h : (Value.slice a3 k c3).ownBlock = some b
        · exact Hob.out b h
        · have h1 := Hb5.out b h hb
          have h2 := Hbe4.out.size
          try simp at h1
          omega
      case measure => simp [intOf]; omega
    · obtain rfl : k = m := by omega
      go_wp2
      go_ret
      refine ⟨a3, c3, rfl, ⟨vs, by rw [Hm.out]; exact Hown.out.sl, fun i hi => ?_⟩, Hbe.out⟩
      have h := Hin.out
      rw [List.take_of_length_le (by rw [Hm.out]; exact Nat.le_refl _)] at h
      obtain ⟨a1, c1, h1, h2⟩ := h.2 i hi
      exact ⟨a1, c1, h1, h2.sl⟩
set_option maxHeartbeats 1000000 in
set_option maxRecDepth 100000 in
theorem sameLists_any (w : World) (a b : Option Addr) (c d m : Nat) (Ps : List (List UInt8)) (hP : Parts w (.slice a m c) Ps) (hQ : Parts w (.slice b m d) Ps) (hm : Ps.length = m) (hm2 : m ≤ 9223372036854775807) :
    Calls Tryd.prog 25 #[.slice a m c, .slice b m d] w fun e w' => e = .returned (.bool true) ∧ Below w.heap.size w w' := by
  have HP := Lib.hid hP
  have HQ := Lib.hid hQ
  have Hm := Lib.hid hm
  have hne : ((m : Int) != (m : Int)) = false := by simp
  clear hP hQ hm
  go_enter Tryd.func25, Tryd.ntmps25
  go_wp2_with fail
  go_loopw [5] (fun i wr => ∃ k : Nat, k ≤ m ∧ i = .int .i64 k ∧ Below w.heap.size w wr) (fun i _ => m - (intOf i).toNat)
  case atStart => exact ⟨0, Nat.zero_le _, rfl, Below.refl _ _⟩
  case round =>
    obtain ⟨k, hk, rfl, hbe⟩ := hrel
    have Hbe := Lib.hid hbe
    clear hbe
    by_cases hlt : k < m
    · have hbd : Below w.heap.size w wr.drew := Hbe.out.drew
      obtain ⟨g, off, ai, ci, n, rfl, c0, hn, hs, hn2⟩ := (HP.out.below hbd).at Hm.out hlt
      obtain ⟨g', off', bi, di, n', rfl, c1, hn', hs', hn2'⟩ := (HQ.out.below hbd).at Hm.out hlt
      have hnn : n' = n := by omega
      subst hnn
      have Hn := Lib.hid hn
      have Hs := Lib.hid hs
      have Hs' := Lib.hid hs'
      have i1 : (0 : Int) ≤ (k : Int) := by omega
      have i2 : (k : Int) < (m : Int) := by omega
      clear hn hs hn' hs' hbd
      go_wp2_with fail
      go_still_tail 8, (by kernel_rfl)
      change wpList _ _ _ _ _ wr.drew
      go_wp2_with fail
      refine (same_any wr.drew ai bi ci di n' n' (Ps.getD k []) (Ps.getD k []) Hs.out Hs'.out Hn.out Hn.out).mono ?_
      rintro e w7 ⟨rfl, hb7⟩
      rw [show decide (Ps.getD k [] = Ps.getD k []) = true by simp]
      have Hb7 := Lib.hid hb7
      clear hb7
      go_wp2
      go_roundw
      case rel => exact ⟨k + 1, hlt, by go_num, Hbe.out.trans ((Below.refl _ _).drew.trans (Hb7.out.mono Hbe.out.size))⟩
      case measure => simp [intOf]; omega
    · go_wp2
      go_ret
      exact ⟨rfl, Hbe.out⟩
end Go.Proofs.YtefobboakikpbaaDoor
