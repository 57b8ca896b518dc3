/- slices.Equal of strings, walked. -/
import Derived.Test.YthnbinlllmkabaaPath
import Derived.Test.YthnbinlllmkabaaTree
import Derived.Test.YthnbinlllmkabaaCnt
import Derived.Test.YthnbinlllmkabaaEqual
namespace Go.Proofs.Ythnbinlllmkabaa
open Go.RowKit Go.Shelf
set_option linter.unusedVariables false
set_option linter.unusedSimpArgs false

set_option maxHeartbeats 2000000 in
set_option maxRecDepth 100000 in
theorem sliceEq_any (w : World) (a b : Option Addr) (c d n m : Nat) (k l : List ByteArray) (hk : Sl w 1 (.slice a n c) n (strs k)) (hl : Sl w 1 (.slice b m d) m (strs l)) (hn : k.length = n) (hm : l.length = m) :
    Calls Try.prog 93 #[.slice a n c, .slice b m d] w fun e w' => e = .returned (.bool (decide (k = l))) ∧ Below w.heap.size w w' := by
  have hkm : n ≤ 9223372036854775807 := by obtain ⟨_, _, _, _, h, _⟩ := hk; exact h
  have hlm : m ≤ 9223372036854775807 := by obtain ⟨_, _, _, _, h, _⟩ := hl; exact h
  have Hk := Lib.hid hk
  have Hl := Lib.hid hl
  clear hk hl
  by_cases hnm : n = m
  · subst hnm
    have Hn := Lib.hid hn
    have Hm := Lib.hid hm
    clear hn hm
    go_enter Try.func93, Try.ntmps93
    go_wp2_with fail
    go_loopw [13] (fun i wr => ∃ j : Nat, j ≤ n ∧ i = .int .i64 j ∧ k.take j = l.take j ∧ Below w.heap.size w wr) (fun i _ => n - (intOf i).toNat)
    case atStart => exact ⟨0, Nat.zero_le _, rfl, rfl, Below.refl _ _⟩
    case round =>
      obtain ⟨j, hj, rfl, he, hbe⟩ := hrel
      have He := Lib.hid he
      have Hbe := Lib.hid hbe
      clear he hbe
      by_cases hlt : j < n
      · have hjk : j < k.length := by rw [Hn.out]; exact hlt
        have hjl : j < l.length := by rw [Hm.out]; exact hlt
        obtain ⟨x, hx⟩ : ∃ x, x = k[j]'hjk := ⟨_, rfl⟩
        obtain ⟨y, hy⟩ : ∃ y, y = l[j]'hjl := ⟨_, rfl⟩
        obtain ⟨p0, o0, rfl, _, f0⟩ := (Hk.out.below Hbe.out).open_ (by simp [strs]; omega)
        obtain ⟨p1, o1, rfl, _, f1⟩ := (Hl.out.below Hbe.out).open_ (by simp [strs]; omega)
        have f0 := f0 j (.string x) (by simp [strs, hx, List.getElem?_eq_getElem hjk])
        have f1 := f1 j (.string y) (by simp [strs, hy, List.getElem?_eq_getElem hjl])
        have T1 := Lib.hid (show k.take (j + 1) = k.take j ++ [x] by rw [hx]; exact List.take_succ_eq_append_getElem hjk)
        have T2 := Lib.hid (show l.take (j + 1) = l.take j ++ [y] by rw [hy]; exact List.take_succ_eq_append_getElem hjl)
        have Hxy := Lib.hid (show x ≠ y → k ≠ l from fun hne e => hne (by subst e; rw [hx, hy]))
        have r0 : (0 : Int) ≤ (j : Int) := by omega
        have r1 : (j : Int) < (n : Int) := by omega
        clear hx hy hjk hjl
        by_cases hxy : x = y
        · subst hxy
          go_wp2_with fail
          go_quiet (fail)
          go_wp2
          go_roundw
          case rel =>
            exact ⟨j + 1, hlt, by go_num, by rw [T1.out, T2.out, He.out], Hbe.out.upd (Nat.le_refl _) ((Upd.refl (fun _ => False) _).drewN nq) (fun _ h => h.elim)⟩
          case measure => simp [intOf]; omega
        · have hne : (x.toList == y.toList) = false := names_ne hxy
          have hne2 : (x.toList != y.toList) = true := by rw [bne, hne]; rfl
          have Hd := Lib.hid (show decide (k = l) = false from decide_eq_false (Hxy.out hxy))
          clear hxy
          go_wp2_with fail
          go_quiet (fail)
          go_wp2
          go_ret
          exact ⟨by rw [Hd.out]; rfl, Hbe.out.upd (Nat.le_refl _) ((Upd.refl (fun _ => False) _).drewN nq) (fun _ h => h.elim)⟩
      · have hkl : k = l := by
          have h := He.out
          rw [List.take_of_length_le (by rw [Hn.out]; omega), List.take_of_length_le (by rw [Hm.out]; omega)] at h
          exact h
        have Hkl := Lib.hid (show decide (k = l) = true from decide_eq_true hkl)
        clear hkl
        go_wp2
        go_ret
        exact ⟨by rw [Hkl.out]; rfl, Hbe.out⟩
  · have hne : ((n : Int) != (m : Int)) = true := by rw [bne_iff_ne]; omega
    have Hne := Lib.hid (show decide (k = l) = false from decide_eq_false (by rintro rfl; exact hnm (hn.symm.trans hm)))
    clear hn hm
    go_enter Try.func93, Try.ntmps93
    go_wp2
    go_ret
    exact ⟨by rw [Hne.out]; rfl, Below.refl _ _⟩
end Go.Proofs.Ythnbinlllmkabaa
