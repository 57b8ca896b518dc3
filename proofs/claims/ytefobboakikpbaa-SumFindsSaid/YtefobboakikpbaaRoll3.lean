/- The roller's contracts in the words of its window. -/
import Derived.Test.YtefobboakikpbaaRoll2
import Derived.Test.YtefobboakikpbaaRollP
namespace Go.Proofs.Ytefobboakikpbaa
open Go.RowKit
set_option linter.unusedVariables false
set_option linter.unusedSimpArgs false

/-- At p lies a roller over this window; its ring is the slice of address a and room c. -/
def RollW (w : World) (p : Nat) (a : Option Addr) (c : Nat) (win : List UInt8) : Prop :=
  ∃ ring k low high, RollerAt w p (.slice a win.length c) ring k low high ∧ Rolls ring k low high win
def stepW (win : List UInt8) (x : UInt8) : List UInt8 := if win = [] then [] else win.tail ++ [x]
theorem stepW_length (win : List UInt8) (x : UInt8) : (stepW win x).length = win.length := by
  unfold stepW; split
  · simp [*]
  · rename_i h
    cases win with
    | nil => exact absurd rfl h
    | cons b r => simp
theorem RollW.kept {S : Nat → Prop} {w w' : World} {p : Nat} {a : Option Addr} {c : Nat} {win : List UInt8} (h : RollW w p a c win) (hu : Upd S w w')
    (hp : ¬ S p) (hn : ∀ k, (Value.slice a win.length c).ownBlock = some k → ¬ S k) : RollW w' p a c win := by
  obtain ⟨ring, k, low, high, ⟨h1, h2, h3⟩, hr⟩ := h
  exact ⟨ring, k, low, high, ⟨hu.at_ h1 hp, h2.kept hu hn, h3⟩, hr⟩
theorem RollW.lt {w : World} {p : Nat} {a : Option Addr} {c : Nat} {win : List UInt8} (h : RollW w p a c win) : p < w.heap.size ∧ ∀ k, (Value.slice a win.length c).ownBlock = some k → k < w.heap.size := by
  obtain ⟨ring, k, low, high, ⟨h1, h2, h3⟩, hr⟩ := h
  exact ⟨lt_heap h1, fun k hk => h2.lt hk⟩

theorem newRoller_win (w : World) (v : Value) (l : List UInt8) (hs : Sl w 1 v l.length (bytes l)) (hn : l.length ≤ 140737488351232) :
    Calls Try.prog 5 #[v] w fun e w' => ∃ p a c, e = .returned (.pointer (some ⟨p, 0, none⟩)) ∧ w.heap.size ≤ p ∧ (∀ k, (Value.slice a l.length c).ownBlock = some k → w.heap.size ≤ k) ∧
      RollW w' p a c l ∧ Below w.heap.size w w' := by
  refine (newRoller_any w v l hs hn).mono ?_
  rintro e w' ⟨p, v', rfl, hp, hv, hR, hb⟩
  obtain ⟨a, c, rfl⟩ := hR.2.1.slice
  rw [wrap_u32, wrap_u32, lowTo_all, highTo_all] at hR
  exact ⟨p, a, c, rfl, hp, hv, ⟨l, 0, _, _, hR, Rolls.start l⟩, hb⟩

theorem rollerSum_win (w : World) (p : Nat) (a : Option Addr) (c : Nat) (win : List UInt8) (h : RollW w p a c win) :
    Calls Try.prog 7 #[.pointer (some ⟨p, 0, none⟩)] w fun e w' => e = .returned (.int .u32 (weakSum win)) ∧ Upd (fun _ => False) w w' ∧ RollW w' p a c win := by
  obtain ⟨ring, k, low, high, hR, hr⟩ := h
  have hl := hr.2.2.1
  have hh := hr.2.2.2
  refine (rollerSum_any w p _ ring k low high hR (by omega) (by omega) (by omega) (by omega)).mono ?_
  rintro e w' ⟨rfl, ⟨n, rfl⟩, hR'⟩
  exact ⟨by rw [weakOf_rolls hr]; rfl, (Upd.refl _ _).drewN n, ring, k, low, high, hR', hr⟩

set_option maxHeartbeats 1000000 in
theorem rollerNext_empty (w : World) (p : Nat) (v : Value) (at_ : Nat) (low high : Int) (xi : Int) (h : RollerAt w p v [] at_ low high)
    (hl0 : 0 ≤ low) (hl1 : low < 4294967296) (hh0 : 0 ≤ high) (hh1 : high < 4294967296) :
    Calls Try.prog 9 #[.pointer (some ⟨p, 0, none⟩), .int .u8 xi] w fun e w' => e = .returned (.int .u32 (weakOf low high)) ∧ (∃ n, w' = w.drewN n) ∧ RollerAt w' p v [] at_ low high := by
  have Hr := Lib.hid h
  obtain ⟨hrow, hown, hne⟩ := h
  obtain ⟨a, c, rfl⟩ := hown.slice
  have f0 := cell_of_row w _ 0 _ _ _ hrow
  simp at f0
  clear hrow hown
  go_enter Try.func9, Try.ntmps9
  go_wp2_with fail
  refine (rollerSum_any _ p _ _ _ _ _ Hr.out hl0 hl1 hh0 hh1).mono ?_
  rintro e w2 ⟨rfl, ⟨nd, rfl⟩, hR⟩
  have HR := Lib.hid hR
  clear hR
  go_wp2
  go_ret
  exact ⟨rfl, ⟨_, rfl⟩, HR.out⟩

theorem rollerNext_win (w : World) (p : Nat) (a : Option Addr) (c : Nat) (win : List UInt8) (x : UInt8) (xi : Int) (hxi : xi = x.toNat) (h : RollW w p a c win) :
    Calls Try.prog 9 #[.pointer (some ⟨p, 0, none⟩), .int .u8 xi] w fun e w' => e = .returned (.int .u32 (weakSum (stepW win x))) ∧ RollW w' p a c (stepW win x) ∧
      Upd (fun k => k = p ∨ (Value.slice a win.length c).ownBlock = some k) w w' := by
  obtain ⟨ring, k, low, high, hR, hr⟩ := h
  have hl := hr.2.2.1
  have hh := hr.2.2.2
  have hlen := hr.length
  rcases hr.2.1 with hk | ⟨rfl, rfl⟩
  · rw [← hlen] at hR ⊢
    refine (rollerNext_any w p a c ring k low high x xi hxi hR hk (by omega) (by omega) (by omega) (by omega)).mono ?_
    rintro e w' ⟨low', high', rfl, rfl, rfl, hR', hu⟩
    have hs := hr.step hk x
    have hw : win ≠ [] := by
      intro e
      have h0 : ring.length = 0 := by rw [hlen, e]; rfl
      omega
    have hst : stepW win x = win.tail ++ [x] := by unfold stepW; rw [if_neg hw]
    refine ⟨?_, ⟨_, _, _, _, ?_, hst ▸ hs⟩, hu⟩
    · rw [weakOf_rolls hs, hst]; rfl
    · rw [stepW_length, ← hlen]; exact hR'
  · have hw : win = [] := List.eq_nil_of_length_eq_zero (by simpa using hlen.symm)
    subst hw
    refine (rollerNext_empty w p _ 0 low high xi hR (by omega) (by omega) (by omega) (by omega)).mono ?_
    rintro e w' ⟨rfl, ⟨n, rfl⟩, hR'⟩
    exact ⟨by rw [weakOf_rolls hr]; rfl, ⟨[], 0, low, high, hR', hr⟩, (Upd.refl _ _).drewN n⟩
end Go.Proofs.Ytefobboakikpbaa
