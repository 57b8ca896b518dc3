/- Contracts of SumFinds, the second part: the closure that compares, and lists of finds. -/
import Derived.Test.YtefobboakikpbaaFind1
namespace Go.Proofs.Ytefobboakikpbaa
open Go.RowKit Go.Shelf
set_option linter.unusedVariables false
set_option linter.unusedSimpArgs false

theorem whole_at (w : World) (Bo : Nat) (a : Option Addr) (c : Nat) (old : List UInt8) (k : Nat) (hb : w.heap[Bo]? = some (.cells #[.slice a old.length c] 22 (0, 0))) (hs : Sl w 1 (.slice a old.length c) old.length (bytes old)) (hc : old.length ≤ c) (ho : old.length ≤ 20000) (hk : 512 * k + 512 ≤ old.length) :
    ∃ a' c', Sl w 1 (.slice a' 512 c') 512 (bytes (pieceAt old k)) ∧ ∀ W : World, W.heap = w.heap → Calls Try.prog 16 (#[.int .i64 k] ++ #[.pointer (some ⟨Bo, 0, none⟩)]) W fun e w' => e = .returned (.slice a' 512 c') ∧ w' = W := by
  have hsz : ∀ w, (sizeOf (Try.prog.elem 22)).run Try.prog w = .ok 1 w := fun _ => by kernel_rfl
  obtain ⟨a', hcut, _, _, hs', _⟩ := hs.cut Try.underlying22 hsz (512 * k) (512 * k + 512) (by omega) hk hc
  have e1 : 512 * k + 512 - 512 * k = 512 := by omega
  have e2 : (((bytes old).drop (512 * k * 1)).take (512 * 1)) = bytes (pieceAt old k) := by simp [bytes, pieceAt, List.map_drop, List.map_take]
  rw [e1] at hs' hcut
  rw [e2] at hs'
  have q := fun w => hcut w ((k : Int) * 512) (((k : Int) + 1) * 512) (by omega) (by omega)
  refine ⟨a', _, hs', fun W hW => ?_⟩
  have hb' := hb
  rw [← hW] at hb'
  have f0 := cell_of_row W Bo 0 _ _ _ hb'
  simp at f0
  clear hcut hs' e1 e2 hsz hs hb hb' hW
  go_enter Try.func16, Try.ntmps16
  go_wp2
  go_ret
  exact ⟨rfl, rfl⟩

set_option maxHeartbeats 1000000 in
theorem find2_any (w : World) (Bo Bw Bh : Nat) (a ah : Option Addr) (c ch : Nat) (old here : List UInt8) (k : Nat) (hb : w.heap[Bo]? = some (.cells #[.slice a old.length c] 22 (0, 0))) (hs : Sl w 1 (.slice a old.length c) old.length (bytes old)) (hc : old.length ≤ c) (ho : old.length ≤ 20000) (hk : 512 * k + 512 ≤ old.length)
    (hw : w.heap[Bw]? = some (.cells #[.func (.func 16) #[] #[.pointer (some ⟨Bo, 0, none⟩)]] 41 (0, 0))) (hh : w.heap[Bh]? = some (.cells #[.slice ah 512 ch] 22 (0, 0))) (hsh : Sl w 1 (.slice ah 512 ch) 512 (bytes here)) (hl : here.length = 512) :
    Calls Try.prog 18 (#[.int .i64 k] ++ #[.pointer (some ⟨Bw, 0, none⟩), .pointer (some ⟨Bh, 0, none⟩)]) w fun e w' => e = .returned (.bool (decide (pieceAt old k = here))) ∧ Upd (fun _ => False) w w' := by
  obtain ⟨a', c', hs', hwh⟩ := whole_at w Bo a c old k hb hs hc ho hk
  have Hwh := Lib.hid (fun m => (hwh (w.drewN m) rfl).mono fun _ _ ⟨he, hw⟩ => And.intro he (⟨m, hw⟩ : ∃ j, _ = w.drewN j))
  obtain ⟨r, hr⟩ : ∃ r, r = decide (pieceAt old k = here) := ⟨_, rfl⟩
  have Hbe := Lib.hid (fun m => (bytesEqual_any (w.drewN m) a' ah c' ch 512 512 (pieceAt old k) here (hs'.kept ((Upd.refl (fun _ => False) w).drewN m) (fun _ _ _ => id)) (hsh.kept ((Upd.refl (fun _ => False) w).drewN m) (fun _ _ _ => id)) (pieceAt_length old k hk) hl).mono fun _ _ ⟨he, hw⟩ => And.intro he (⟨m, hw⟩ : ∃ j, _ = w.drewN j))
  have fw := cell_of_row w Bw 0 _ _ _ hw
  have fh := cell_of_row w Bh 0 _ _ _ hh
  simp at fw fh
  rw [← hr] at Hbe ⊢
  clear hwh hs' hb hs hc hw hh hsh hl hr
  go_enter Try.func18, Try.ntmps18
  go_wp2_with fail
  go_quiet (first | (go_at_call 16; exact Hwh.out _) | (go_at_call 19; exact Hbe.out _))
  go_wp2
  go_ret
  exact ⟨rfl, (Upd.refl _ _).drewN nq⟩
end Go.Proofs.Ytefobboakikpbaa
