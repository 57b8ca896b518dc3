/- Contracts of the little functions of SumFinds. -/
import Derived.Test.YtefobboakikpbaaFindP
import Derived.Test.YtefobboakikpbaaGen
import Derived.Test.YtefobboakikpbaaMap
import Derived.ChangeKeysEq
import Derived.Shelf.Abstract
namespace Go.Proofs.Ytefobboakikpbaa
open Go.RowKit Go.Shelf
set_option linter.unusedVariables false
set_option linter.unusedSimpArgs false

set_option maxHeartbeats 1000000 in
theorem same_any (w : World) (a b : Option Addr) (c d n m : Nat) (k l : List UInt8) (hk : Sl w 1 (.slice a n c) n (bytes k)) (hl : Sl w 1 (.slice b m d) m (bytes l)) (hn : k.length = n) (hm : l.length = m) :
    Calls Try.prog 13 #[.slice a n c, .slice b m d] w fun e w' => e = .returned (.bool (decide (k = l))) ∧ Below w.heap.size w w' := by
  have hkm : n ≤ 9223372036854775807 := by obtain ⟨_, _, _, _, h, _⟩ := hk; exact h
  have hlm : m ≤ 9223372036854775807 := by obtain ⟨_, _, _, _, h, _⟩ := hl; exact h
  have Hk := Lib.hid hk
  have Hl := Lib.hid hl
  clear hk hl
  by_cases hnm : n = m
  · subst hnm
    have Hn := Lib.hid hn
    have Hm := Lib.hid hm
    clear hn hm
    go_enter Try.func13, Try.ntmps13
    go_wp2_with fail
    go_loopw [5] (fun i wr => ∃ j : Nat, j ≤ n ∧ i = .int .i64 j ∧ k.take j = l.take j ∧ Below w.heap.size w wr) (fun i _ => n - (intOf i).toNat)
    case atStart => exact ⟨0, Nat.zero_le _, rfl, rfl, Below.refl _ _⟩
    case round =>
      obtain ⟨j, hj, rfl, he, hbe⟩ := hrel
      have He := Lib.hid he
      have Hbe := Lib.hid hbe
      clear he hbe
      by_cases hlt : j < n
      · have hn := Hn.out
        have hm := Hm.out
        have g0 := Hk.out.below Hbe.out
        have g1 := Hl.out.below Hbe.out
        obtain ⟨p0, o0, rfl, _, f0⟩ := g0.open_ (by rw [bytes_length]; omega)
        obtain ⟨p1, o1, rfl, _, f1⟩ := g1.open_ (by rw [bytes_length]; omega)
        have f0 := f0 j _ (bytes_getD k j (by omega))
        have f1 := f1 j _ (bytes_getD l j (by omega))
        have t1 : k.take (j + 1) = k.take j ++ [k.getD j 0] := by
          rw [List.take_succ_eq_append_getElem (by omega), List.getD_eq_getElem?_getD, List.getElem?_eq_getElem (by omega)]; rfl
        have t2 : l.take (j + 1) = l.take j ++ [l.getD j 0] := by
          rw [List.take_succ_eq_append_getElem (by omega), List.getD_eq_getElem?_getD, List.getElem?_eq_getElem (by omega)]; rfl
        have T1 := Lib.hid t1
        have T2 := Lib.hid t2
        obtain ⟨x, hx⟩ : ∃ x, x = (k.getD j 0).toNat := ⟨_, rfl⟩
        obtain ⟨y, hy⟩ : ∃ y, y = (l.getD j 0).toNat := ⟨_, rfl⟩
        rw [← hx] at f0
        rw [← hy] at f1
        have Hx := Lib.hid hx
        have Hy := Lib.hid hy
        have r0 : (0 : Int) ≤ (j : Int) := by omega
        have r1 : (j : Int) < (n : Int) := by omega
        clear g0 g1 t1 t2 hx hy hn hm
        by_cases hxy : x = y
        · subst hxy
          go_wp2_with fail
          go_quiet (fail)
          go_wp2
          go_roundw
          case rel =>
            refine ⟨j + 1, hlt, by go_num, ?_, Hbe.out.upd (Nat.le_refl _) ((Upd.refl (fun _ => False) _).drewN nq) (fun _ h => h.elim)⟩
            have h1 := Hx.out
            rw [Hy.out] at h1
            rw [T1.out, T2.out, He.out, UInt8.toNat_inj.1 h1]
          case measure => simp [intOf]; omega
        · have hne : ((x : Int) != (y : Int)) = true := by rw [bne_iff_ne]; omega
          go_wp2_with fail
          go_quiet (fail)
          go_wp2
          go_ret
          refine ⟨?_, Hbe.out.upd (Nat.le_refl _) ((Upd.refl (fun _ => False) _).drewN nq) (fun _ h => h.elim)⟩
          rw [decide_eq_false]
          · rfl
          · intro e; apply hxy; rw [Hx.out, Hy.out, e]
      · have hjn : j = n := by omega
        have hkl : k = l := by
          have h := He.out
          rw [List.take_of_length_le (by rw [Hn.out]; omega), List.take_of_length_le (by rw [Hm.out]; omega)] at h
          exact h
        have Hkl := Lib.hid hkl
        clear hkl
        go_wp2
        go_ret
        refine ⟨?_, Hbe.out⟩
        rw [decide_eq_true Hkl.out]
        rfl
  · have hne : ((n : Int) != (m : Int)) = true := by rw [bne_iff_ne]; omega
    have Hne := Lib.hid (show k ≠ l by rintro rfl; exact hnm (hn.symm.trans hm))
    clear hn hm
    go_enter Try.func13, Try.ntmps13
    go_wp2
    go_ret
    refine ⟨?_, Below.refl _ _⟩
    rw [decide_eq_false Hne.out]
    rfl


set_option maxHeartbeats 1000000 in
theorem refSame_any (w : World) (a b : Option Addr) (c d n : Nat) (k l : List UInt8) (hk : Sl w 1 (.slice a n c) n (bytes k)) (hl : Sl w 1 (.slice b n d) n (bytes l)) (hn : k.length = n) (hm : l.length = n) :
    Calls Try.prog 15 #[.slice a n c, .slice b n d] w fun e w' => e = .returned (.bool (decide (k = l))) ∧ ∃ nn, w' = w.drewN nn := by
  have hkm : n ≤ 9223372036854775807 := by obtain ⟨_, _, _, _, h, _⟩ := hk; exact h
  have Hk := Lib.hid hk
  have Hl := Lib.hid hl
  clear hk hl
  have Hn := Lib.hid hn
  have Hm := Lib.hid hm
  clear hn hm
  go_enter Try.func15, Try.ntmps15
  go_wp2_with fail
  go_loopw [5] (fun i wr => ∃ j : Nat, j ≤ n ∧ i = .int .i64 j ∧ k.take j = l.take j ∧ ∃ nn, wr = w.drewN nn) (fun i _ => n - (intOf i).toNat)
  case atStart => exact ⟨0, Nat.zero_le _, rfl, rfl, 0, rfl⟩
  case round =>
    obtain ⟨j, hj, rfl, he, nn, hnn⟩ := hrel
    have hbe : Below w.heap.size w wr := by rw [hnn]; exact ((Upd.refl (fun _ => False) w).drewN nn).toBelow (fun _ h => h.elim) (Nat.le_refl _)
    have Hnn := Lib.hid hnn
    clear hnn
    have He := Lib.hid he
    have Hbe := Lib.hid hbe
    clear he hbe
    by_cases hlt : j < n
    · have hn := Hn.out
      have hm := Hm.out
      have g0 := Hk.out.below Hbe.out
      have g1 := Hl.out.below Hbe.out
      obtain ⟨p0, o0, rfl, _, f0⟩ := g0.open_ (by rw [bytes_length]; omega)
      obtain ⟨p1, o1, rfl, _, f1⟩ := g1.open_ (by rw [bytes_length]; omega)
      have f0 := f0 j _ (bytes_getD k j (by omega))
      have f1 := f1 j _ (bytes_getD l j (by omega))
      have t1 : k.take (j + 1) = k.take j ++ [k.getD j 0] := by
        rw [List.take_succ_eq_append_getElem (by omega), List.getD_eq_getElem?_getD, List.getElem?_eq_getElem (by omega)]; rfl
      have t2 : l.take (j + 1) = l.take j ++ [l.getD j 0] := by
        rw [List.take_succ_eq_append_getElem (by omega), List.getD_eq_getElem?_getD, List.getElem?_eq_getElem (by omega)]; rfl
      have T1 := Lib.hid t1
      have T2 := Lib.hid t2
      obtain ⟨x, hx⟩ : ∃ x, x = (k.getD j 0).toNat := ⟨_, rfl⟩
      obtain ⟨y, hy⟩ : ∃ y, y = (l.getD j 0).toNat := ⟨_, rfl⟩
      rw [← hx] at f0
      rw [← hy] at f1
      have Hx := Lib.hid hx
      have Hy := Lib.hid hy
      have r0 : (0 : Int) ≤ (j : Int) := by omega
      have r1 : (j : Int) < (n : Int) := by omega
      clear g0 g1 t1 t2 hx hy hn hm
      by_cases hxy : x = y
      · subst hxy
        go_wp2_with fail
        go_quiet (fail)
        go_wp2
        go_roundw
        case rel =>
          refine ⟨j + 1, hlt, by go_num, ?_, nn + nq, by rw [Hnn.out, World.drewN_drewN]⟩
          have h1 := Hx.out
          rw [Hy.out] at h1
          rw [T1.out, T2.out, He.out, UInt8.toNat_inj.1 h1]
        case measure => simp [intOf]; omega
      · have hne : ((x : Int) != (y : Int)) = true := by rw [bne_iff_ne]; omega
        go_wp2_with fail
        go_quiet (fail)
        go_wp2
        go_ret
        refine ⟨?_, nn + nq, by rw [Hnn.out, World.drewN_drewN]⟩
        rw [decide_eq_false]
        · rfl
        · intro e; apply hxy; rw [Hx.out, Hy.out, e]
    · have hjn : j = n := by omega
      have hkl : k = l := by
        have h := He.out
        rw [List.take_of_length_le (by rw [Hn.out]; omega), List.take_of_length_le (by rw [Hm.out]; omega)] at h
        exact h
      have Hkl := Lib.hid hkl
      clear hkl
      go_wp2
      go_ret
      refine ⟨?_, nn, Hnn.out⟩
      rw [decide_eq_true Hkl.out]
      rfl

/-! ### bytes.Equal, and the closures -/
theorem sl_string (w : World) (a : Option Addr) (n c : Nat) (l : List UInt8) (h : Sl w 1 (.slice a n c) n (bytes l)) (hn : l.length = n) (W : World) (hW : ∀ (p : Addr) (v : Value), w.cell? p = some v → W.cell? p = some v) :
    (convert 22 9 (.slice a n c)).run Try.prog W = .ok (.string ⟨l.toArray⟩) W := by
  subst hn
  obtain ⟨a0, c0, he, hl, hm, hc⟩ := h
  injection he with h1 _ h3
  subst h1 h3
  cases l with
  | nil =>
    cases a with
    | none => exact run_convert_bytes_nil W 22 5 Try.underlying22 Try.underlying5 0 c 9 Try.underlying9
    | some ad => exact run_convert_bytes_back W 22 9 5 ad c [] Try.underlying22 Try.underlying5 Try.underlying9 (fun j hj => absurd hj (by simp))
  | cons x r =>
    obtain ⟨ad, rfl, hcc⟩ := hc (by simp [bytes])
    exact run_convert_bytes_back W 22 9 5 ad c (x :: r) Try.underlying22 Try.underlying5 Try.underlying9 (fun j hj => hW _ _ (hcc j _ (bytes_get _ j hj)))
theorem str_beq (l m : List UInt8) : ((⟨l.toArray⟩ : ByteArray).toList == (⟨m.toArray⟩ : ByteArray).toList) = decide (l = m) := by
  rw [ByteArray.toList_eq, ByteArray.toList_eq]
  by_cases h : l = m
  · subst h; simp
  · rw [decide_eq_false h, beq_eq_false_iff_ne]
    exact h
theorem ret_b {x y : Bool} (h : x = y) : Ending.returned (.bool x) = Ending.returned (.bool y) := by rw [h]
theorem bytesEqual_any (w : World) (a b : Option Addr) (c d n m : Nat) (k l : List UInt8) (hk : Sl w 1 (.slice a n c) n (bytes k)) (hl : Sl w 1 (.slice b m d) m (bytes l)) (hn : k.length = n) (hm : l.length = m) :
    Calls Try.prog 19 #[.slice a n c, .slice b m d] w fun e w' => e = .returned (.bool (decide (k = l))) ∧ w' = w := by
  have q1 := sl_string w a n c k hk hn w (fun _ _ h => h)
  have q2 := sl_string w b m d l hl hm w (fun _ _ h => h)
  obtain ⟨r, hr⟩ : ∃ r, r = decide (k = l) := ⟨_, rfl⟩
  have hs := str_beq k l
  rw [← hr] at hs ⊢
  obtain ⟨s, hs1⟩ : ∃ s : ByteArray, s = ⟨k.toArray⟩ := ⟨_, rfl⟩
  obtain ⟨t, ht1⟩ : ∃ t : ByteArray, t = ⟨l.toArray⟩ := ⟨_, rfl⟩
  rw [← hs1] at q1 hs
  rw [← ht1] at q2 hs
  have Hs := Lib.hid hs
  clear hs1 ht1 hs hr hk hl hn hm
  go_enter Try.func19, Try.ntmps19
  go_wp2
  go_ret
  exact ⟨ret_b Hs.out, rfl⟩

theorem whole_any (w : World) (Bo : Nat) (a : Option Addr) (c : Nat) (old : List UInt8) (k : Nat) (hb : w.heap[Bo]? = some (.cells #[.slice a old.length c] 22 (0, 0))) (hs : Sl w 1 (.slice a old.length c) old.length (bytes old)) (hc : old.length ≤ c) (ho : old.length ≤ 20000) (hk : 512 * k + 512 ≤ old.length) :
    Calls Try.prog 16 (#[.int .i64 k] ++ #[.pointer (some ⟨Bo, 0, none⟩)]) w fun e w' => ∃ a' c', e = .returned (.slice a' 512 c') ∧ Sl w 1 (.slice a' 512 c') 512 (bytes (pieceAt old k)) ∧ w' = w := by
  have hsz : ∀ w, (sizeOf (Try.prog.elem 22)).run Try.prog w = .ok 1 w := fun _ => by kernel_rfl
  obtain ⟨a', hcut, _, _, hs', _⟩ := hs.cut Try.underlying22 hsz (512 * k) (512 * k + 512) (by omega) hk hc
  have e1 : 512 * k + 512 - 512 * k = 512 := by omega
  have e2 : (((bytes old).drop (512 * k * 1)).take (512 * 1)) = bytes (pieceAt old k) := by simp [bytes, pieceAt, List.map_drop, List.map_take]
  rw [e1] at hs' hcut
  rw [e2] at hs'
  have q := fun w => hcut w ((k : Int) * 512) (((k : Int) + 1) * 512) (by omega) (by omega)
  have Hs := Lib.hid hs'
  have f0 := cell_of_row w Bo 0 _ _ _ hb
  simp at f0
  clear hcut hs' e1 e2 hsz hs hb
  go_enter Try.func16, Try.ntmps16
  go_wp2
  go_ret
  exact ⟨_, _, rfl, Hs.out, rfl⟩

/-- Numbers as cells. -/
def natv (l : List Nat) : List Value := l.map fun (k : Nat) => Value.int .i64 (k : Int)
theorem natv_length (l : List Nat) : (natv l).length = l.length := by simp [natv]
theorem natv_get (l : List Nat) (j : Nat) (h : j < l.length) : (natv l)[j]? = some (.int .i64 ((l.getD j 0 : Nat) : Int)) := by simp [natv, h]
theorem natv_one (l : List Nat) : ∀ u ∈ natv l, u.oneCell' = true := by
  intro u hu
  simp only [natv, List.mem_map] at hu
  obtain ⟨x, _, rfl⟩ := hu
  rfl

set_option maxHeartbeats 1000000 in
theorem indexFunc_any (w : World) (a : Option Addr) (n c : Nat) (zs : List Nat) (hs : Sl w 1 (.slice a n c) n (natv zs)) (hn : zs.length = n) (hn2 : n ≤ 1000000) (gf : FuncId) (lb : Array Value) (eg : Enters Try.prog gf) (p : Nat → Bool)
    (hp : ∀ (W : World) (i : Nat), i < n → Upd (fun _ => False) w W → Calls Try.prog gf (#[.int .i64 ((zs.getD i 0 : Nat) : Int)] ++ lb) W fun e W' => e = .returned (.bool (p (zs.getD i 0))) ∧ Upd (fun _ => False) W W') :
    Calls Try.prog 17 #[.slice a n c, .func (.func gf) #[] lb] w fun e w' => ∃ r : Int, e = .returned (.int .i64 r) ∧ ((r = -1 ∧ ∀ j, j < n → p (zs.getD j 0) = false) ∨ ∃ i : Nat, r = i ∧ i < n ∧ p (zs.getD i 0) = true ∧ ∀ j, j < i → p (zs.getD j 0) = false) ∧ Upd (fun _ => False) w w' := by
  have Hs := Lib.hid hs
  have Hp := Lib.hid hp
  have Hn := Lib.hid hn
  have egf : ∀ args w, (callFunc gf args).run Try.prog w = .ok (.enter gf args) w := eg
  clear hs hp hn eg
  go_enter Try.func17, Try.ntmps17
  go_wp2_with fail
  go_loopw [8] (fun i wr => ∃ j : Nat, j ≤ n ∧ i = .int .i64 j ∧ (∀ q, q < j → p (zs.getD q 0) = false) ∧ Upd (fun _ => False) w wr) (fun i _ => n - (intOf i).toNat)
  case atStart => exact ⟨0, Nat.zero_le _, rfl, fun q hq => absurd hq (Nat.not_lt_zero q), Upd.refl _ _⟩
  case round =>
    obtain ⟨j, hj, rfl, hq, hu⟩ := hrel
    have Hq := Lib.hid hq
    have Hu := Lib.hid hu
    clear hq hu
    by_cases hlt : j < n
    · obtain ⟨g, o, rfl, _, hc⟩ := Hs.out.open_ (by rw [natv_length, Hn.out]; omega)
      have f0 := Hu.out.cell (hc j _ (natv_get zs j (by rw [Hn.out]; exact hlt))) id
      have r0 : (0 : Int) ≤ (j : Int) := by omega
      have r1 : (j : Int) < (n : Int) := by omega
      clear hc
      go_wp2_with fail
      refine (Hp.out wr j hlt Hu.out).mono ?_
      rintro e w1 ⟨rfl, hu1⟩
      have Hu1 := Lib.hid (Hu.out.trans hu1)
      clear hu1 f0
      obtain ⟨b, hb⟩ : ∃ b, b = p (zs.getD j 0) := ⟨_, rfl⟩
      rw [← hb]
      have Hb := Lib.hid hb
      clear hb
      cases b with
      | true =>
        go_wp2
        go_ret
        exact ⟨_, rfl, .inr ⟨j, rfl, hlt, Hb.out.symm, Hq.out⟩, Hu1.out⟩
      | false =>
        go_wp2
        go_roundw
        case rel => exact ⟨j + 1, hlt, by go_num, fun q hq => by
          rcases Nat.lt_or_ge q j with h | h
          · exact Hq.out q h
          · obtain rfl : q = j := by omega
            exact Hb.out.symm, Hu1.out⟩
        case measure => simp [intOf]; omega
    · obtain rfl : j = n := by omega
      clear hlt
      go_wp2
      go_ret
      exact ⟨_, rfl, .inl ⟨rfl, Hq.out⟩, Hu.out⟩
end Go.Proofs.Ytefobboakikpbaa
