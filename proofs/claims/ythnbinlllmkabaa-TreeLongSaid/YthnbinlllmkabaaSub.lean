/- Names in their order: cmp.Less, slices.BinarySearch; a tree's kid, Sub, At, way. -/
import Derived.Test.YthnbinlllmkabaaPath
import Derived.Test.YthnbinlllmkabaaLess
namespace Go.Proofs.Ythnbinlllmkabaa
open Go.RowKit
set_option linter.unusedVariables false
set_option linter.unusedSimpArgs false

/-- Does a text stand ahead of another? -/
def blt (a b : ByteArray) : Bool := Op.bytesLess a.toList b.toList
theorem bytesLess_trans : ∀ a b c : List UInt8, Op.bytesLess a b = true → Op.bytesLess b c = true → Op.bytesLess a c = true
  | _, [], _, h, _ => by cases ‹List UInt8› <;> simp [Op.bytesLess] at h
  | _, _ :: _, [], _, h => by simp [Op.bytesLess] at h
  | [], y :: b, z :: c, _, _ => by simp [Op.bytesLess]
  | x :: a, y :: b, z :: c, h, k => by
    simp only [Op.bytesLess] at h k ⊢
    have lt : ∀ p q : UInt8, p < q ↔ p.toNat < q.toNat := fun p q => Iff.rfl
    have eq : ∀ p q : UInt8, p = q ↔ p.toNat = q.toNat := fun p q => UInt8.toNat_inj.symm
    simp only [Bool.or_eq_true, Bool.and_eq_true, decide_eq_true_eq, beq_iff_eq, lt, eq] at h k ⊢
    rcases h with h | ⟨h1, h2⟩ <;> rcases k with k | ⟨k1, k2⟩
    · left; omega
    · left; omega
    · left; omega
    · right; exact ⟨by omega, bytesLess_trans a b c h2 k2⟩
theorem blt_trans {a b c : ByteArray} (h : blt a b = true) (k : blt b c = true) : blt a c = true := bytesLess_trans _ _ _ h k
theorem bytesLess_irrefl : ∀ a : List UInt8, Op.bytesLess a a = false
  | [] => rfl
  | x :: a => by
    have ih := bytesLess_irrefl a
    simp only [Op.bytesLess, ih]
    simp
theorem blt_irrefl (a : ByteArray) : blt a a = false := bytesLess_irrefl _
theorem toList_inj {a b : ByteArray} (h : a.toList = b.toList) : a = b := by
  rw [ByteArray.toList_eq, ByteArray.toList_eq] at h
  cases a; cases b
  simp only [Array.toList_inj] at h
  rw [h]
/-- Names that rise. -/
def Rising (l : List ByteArray) : Prop := l.Pairwise fun a b => blt a b = true
/-- How many of these stand ahead of a text. -/
def rank (l : List ByteArray) (t : ByteArray) : Nat := (l.takeWhile fun x => blt x t).length
def found (l : List ByteArray) (t : ByteArray) : Bool := decide (l[rank l t]? = some t)
theorem rank_le (l : List ByteArray) (t : ByteArray) : rank l t ≤ l.length := by
  unfold rank
  exact (List.takeWhile_sublist _).length_le
theorem rank_eq : ∀ (l : List ByteArray) (t : ByteArray) (i : Nat), i ≤ l.length → (∀ j x, l[j]? = some x → j < i → blt x t = true) → (∀ x, l[i]? = some x → blt x t = false) → rank l t = i
  | [], t, i, hi, _, _ => by simp at hi; subst hi; rfl
  | y :: r, t, 0, _, _, h2 => by
    have := h2 y rfl
    simp [rank, List.takeWhile_cons, this]
  | y :: r, t, i + 1, hi, h1, h2 => by
    have hy := h1 0 y rfl (by omega)
    have ih := rank_eq r t i (by simpa using hi) (fun j x hj hji => h1 (j + 1) x (by simpa using hj) (by omega)) (fun x hx => h2 x (by simpa using hx))
    unfold rank at ih ⊢
    rw [List.takeWhile_cons, if_pos hy, List.length_cons, ih]
theorem less_any (w : World) (a b : ByteArray) : Calls Try.prog 123 #[.string a, .string b] w fun e w' => e = .returned (.bool (blt a b)) ∧ w' = w := by
  have hnan : ∀ (x : ByteArray) (w : World), Calls Try.prog 130 #[.string x] w fun e w' => e = .returned (.bool false) ∧ w' = w := fun x w => by
    go_enter Try.func130, Try.ntmps130
    go_wp2
    go_ret
    first | exact ⟨rfl, rfl⟩ | exact ⟨by simp, rfl⟩
  have Hnan := Lib.hid hnan
  clear hnan
  obtain ⟨z, hz⟩ : ∃ z, z = blt a b := ⟨_, rfl⟩
  have hz2 : Op.bytesLess a.toList b.toList = z := hz.symm
  rw [← hz]
  clear hz
  go_enter Try.func123, Try.ntmps123
  go_wp2_with (go_at_call 130; refine (Hnan.out _ _).mono ?_; rintro e w' ⟨rfl, hw⟩; obtain rfl := hw.symm)
  go_ret
  exact ⟨rfl, rfl⟩
set_option maxHeartbeats 2000000 in
set_option maxRecDepth 100000 in
theorem search_any (w : World) (l : List ByteArray) (t : ByteArray) (a : Option Addr) (n c : Nat) (hs : Sl w 1 (.slice a n c) n (strs l)) (hn : l.length = n) (hr : Rising l) (hn2 : n ≤ 1099511627776) :
    Calls Try.prog 111 #[.slice a n c, .string t] w fun e w' => e = .returned (.tuple #[.int .i64 (rank l t : Nat), .bool (found l t)]) ∧ Below w.heap.size w w' := by
  have Hs := Lib.hid hs
  have Hn := Lib.hid hn
  have Hr := Lib.hid hr
  clear hs hn hr
  go_enter Try.func111, Try.ntmps111
  go_wp2_with fail
  go_loopw [7, 8] (fun i j wr => ∃ p q : Nat, p ≤ q ∧ q ≤ n ∧ i = .int .i64 p ∧ j = .int .i64 q ∧ Below w.heap.size w wr ∧ (∀ k x, l[k]? = some x → k < p → blt x t = true) ∧ (∀ k x, l[k]? = some x → q ≤ k → blt x t = false)) (fun i j _ => (intOf j).toNat - (intOf i).toNat)
  case atStart => exact ⟨0, n, Nat.zero_le _, Nat.le_refl _, rfl, rfl, Below.refl _ _, fun k x _ h => by omega, fun k x hk h => by have := (List.getElem?_eq_some_iff.1 hk).1; have := Hn.out; omega⟩
  case round =>
    obtain ⟨p, q, hpq, hq, rfl, rfl, hbe, hlo, hhi⟩ := hrel
    have Hbe := Lib.hid hbe
    have Hlo := Lib.hid hlo
    have Hhi := Lib.hid hhi
    clear hbe hlo hhi
    by_cases hlt : p < q
    · obtain ⟨h, hh⟩ : ∃ h, h = (p + q) / 2 := ⟨_, rfl⟩
      have z1 : IntKind.i64.wrap ((p : Int) + (q : Int)) = (p : Int) + (q : Int) := IntWalk.i64_in _ (by omega)
      have z2 : ((p : Int) + (q : Int)) / 2 = (h : Int) := by omega
      have hhn : h < l.length := by rw [Hn.out]; omega
      obtain ⟨x, hx⟩ : ∃ x, x = l[h]'hhn := ⟨_, rfl⟩
      obtain ⟨g, off, rfl, _, hcc⟩ := (Hs.out.below Hbe.out).open_ (by simp [strs]; have := Hn.out; omega)
      have f0 := hcc h (.string x) (by simp [strs, hx, List.getElem?_eq_getElem hhn])
      have i1 : (0 : Int) ≤ (h : Int) := by omega
      have i2 : (h : Int) < (n : Int) := by have := Hn.out; omega
      have hph : p ≤ h := by omega
      have hhq : h < q := by omega
      have Hx := Lib.hid (show l[h]? = some x by rw [hx]; exact List.getElem?_eq_getElem hhn)
      clear hcc hx hhn hh
      obtain ⟨z, hz⟩ : ∃ z, z = blt x t := ⟨_, rfl⟩
      have Hz := Lib.hid hz
      have Hl := Lib.hid (less_any wr x t)
      rw [← hz] at Hl
      clear hz
      cases z with
      | true =>
        go_wp2_with fail
        refine Hl.out.mono ?_
        rintro e w' ⟨rfl, hw⟩
        obtain rfl := hw.symm
        clear Hl
        go_wp2
        go_roundw
        case rel =>
          refine ⟨h + 1, q, by omega, hq, by go_num, rfl, Hbe.out, fun k y hk hkp => ?_, Hhi.out⟩
          by_cases hkh : k = h
          · subst hkh
            rw [Hx.out] at hk
            injection hk with hk
            rw [← hk]; exact Hz.out.symm
          · have hp := (List.pairwise_iff_getElem.1 Hr.out) k h (List.getElem?_eq_some_iff.1 hk).1 (List.getElem?_eq_some_iff.1 Hx.out).1 (by omega)
            rw [(List.getElem?_eq_some_iff.1 hk).2, (List.getElem?_eq_some_iff.1 Hx.out).2] at hp
            exact blt_trans hp Hz.out.symm
        case measure => simp [intOf]; omega
      | false =>
        go_wp2_with fail
        refine Hl.out.mono ?_
        rintro e w' ⟨rfl, hw⟩
        obtain rfl := hw.symm
        clear Hl
        go_wp2
        go_roundw
        case rel =>
          refine ⟨p, h, hph, by omega, rfl, by go_num, Hbe.out, Hlo.out, fun k y hk hkp => ?_⟩
          by_cases hkh : k = h
          · subst hkh
            rw [Hx.out] at hk
            injection hk with hk
            rw [← hk]; exact Hz.out.symm
          · have hp := (List.pairwise_iff_getElem.1 Hr.out) h k (List.getElem?_eq_some_iff.1 Hx.out).1 (List.getElem?_eq_some_iff.1 hk).1 (by omega)
            rw [(List.getElem?_eq_some_iff.1 hk).2, (List.getElem?_eq_some_iff.1 Hx.out).2] at hp
            cases hyt : blt y t with
            | false => rfl
            | true => rw [blt_trans hp hyt] at Hz; cases Hz.out
        case measure => simp [intOf]; omega
    · obtain rfl : p = q := by omega
      clear hlt hpq
      have hrk : rank l t = p := rank_eq l t p (by rw [Hn.out]; exact hq) Hlo.out (fun x hx => Hhi.out p x hx (Nat.le_refl _))
      have Hrk := Lib.hid hrk
      clear hrk
      by_cases hpn : p < n
      · have hpl : p < l.length := by rw [Hn.out]; exact hpn
        obtain ⟨x, hx⟩ : ∃ x, x = l[p]'hpl := ⟨_, rfl⟩
        obtain ⟨g, off, rfl, _, hcc⟩ := (Hs.out.below Hbe.out).open_ (by simp [strs]; omega)
        have f0 := hcc p (.string x) (by simp [strs, hx, List.getElem?_eq_getElem hpl])
        have i1 : (0 : Int) ≤ (p : Int) := by omega
        have i2 : (p : Int) < (n : Int) := by omega
        have Hx := Lib.hid (show l[p]? = some x by rw [hx]; exact List.getElem?_eq_getElem hpl)
        have hnan : ∀ (x : ByteArray) (w : World), Calls Try.prog 124 #[.string x] w fun e w' => e = .returned (.bool false) ∧ w' = w := fun x w => by
          go_enter Try.func124, Try.ntmps124
          go_wp2
          go_ret
          first | exact ⟨rfl, rfl⟩ | exact ⟨by simp, rfl⟩
        have Hnan := Lib.hid hnan
        clear hcc hx hpl hnan
        by_cases hxt : x = t
        · subst hxt
          have Hf : Hid (found l x = true) := by
            show _ = _
            unfold found
            rw [Hrk.out, Hx.out]
            simp
          go_wp2
          go_ret2
          exact ⟨by rw [Hrk.out, Hf.out]; rfl, Hbe.out⟩
        · have e1 : (x.toList == t.toList) = false := by rw [beq_eq_false_iff_ne]; exact fun e => hxt (toList_inj e)
          have Hf : Hid (found l t = false) := by
            show _ = _
            unfold found
            rw [Hrk.out, Hx.out]
            simpa using hxt
          clear hxt
          go_wp2_with (go_at_call 124; refine (Hnan.out _ _).mono ?_; rintro e w' ⟨rfl, hw⟩; obtain rfl := hw.symm)
          go_ret2
          exact ⟨by rw [Hrk.out, Hf.out]; rfl, Hbe.out⟩
      · have Hf : Hid (found l t = false) := by
          show _ = _
          unfold found
          rw [Hrk.out, List.getElem?_eq_none (by rw [Hn.out]; omega)]
          rfl
        go_wp2
        go_ret2
        exact ⟨by rw [Hrk.out, Hf.out]; rfl, Hbe.out⟩
end Go.Proofs.Ythnbinlllmkabaa
