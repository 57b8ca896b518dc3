/- A tree's children, as an iterator. -/
import Derived.Test.YthnbinlllmkabaaGrow
import Derived.Test.YthnbinlllmkabaaRound
import Derived.RangeFuncCalls
import Derived.Shelf.Abstract
import Derived.OwnWalkIn
import Derived.TacticsInMore
import Derived.LoopNIn
import Derived.LoopIn
namespace Go.Proofs.Ythnbinlllmkabaa
open Go.RowKit Go.Shelf
set_option linter.unusedVariables false
set_option linter.unusedSimpArgs false
attribute [local go_sem] Oper.semAt_some

theorem children_any (w : World) (p : Nat) :
    Calls Try.prog 19 #[.pointer (some ⟨p, 0, none⟩)] w fun e w' => e = .returned (.func (.func 78) #[] #[.pointer (some ⟨w.heap.size, 0, none⟩)]) ∧ w' = w.alloc (.cells #[.pointer (some ⟨p, 0, none⟩)] 55) := by
  go_enter Try.func19, Try.ntmps19
  go_wp2
  go_ret
  exact ⟨rfl, rfl⟩
theorem finRange_take (m k : Nat) (h : k < m) : (List.finRange m).take (k + 1) = (List.finRange m).take k ++ [⟨k, h⟩] := by
  rw [List.take_succ_eq_append_getElem (by simpa using h)]
  simp
set_option maxHeartbeats 2000000 in
set_option maxRecDepth 100000 in
theorem children_stops (n : Nat) (hn1 : 1 ≤ n) (w : World) (S0 : Nat → Prop) (Bt p m : Nat) (an ak : Option Addr) (cn ck : Nat) (nm : Fin m → ByteArray) (pt : Fin m → Nat) (hm : m ≤ 1000000)
    (hb : w.cell? ⟨Bt, 0, none⟩ = some (.pointer (some ⟨p, 0, none⟩))) (hb0 : ¬ S0 Bt) (h39 : w.cell? ⟨p, 39, none⟩ = some (.slice an m cn)) (h40 : w.cell? ⟨p, 40, none⟩ = some (.slice ak m ck)) (hp0 : ¬ S0 p)
    (hns : ∀ i : Fin m, ∃ g off, an = some ⟨g, off, none⟩ ∧ ¬ S0 g ∧ w.cell? ⟨g, off + i.1, none⟩ = some (.string (nm i))) (hks : ∀ i : Fin m, ∃ g off, ak = some ⟨g, off, none⟩ ∧ ¬ S0 g ∧ w.cell? ⟨g, off + i.1, none⟩ = some (.pointer (some ⟨pt i, 0, none⟩))) :
    SeqStopsK Fence.wide n Try.prog 78 #[.pointer (some ⟨Bt, 0, none⟩)] (fun i : Fin m => #[.string (nm i), .pointer (some ⟨pt i, 0, none⟩)]) (Upd S0) (fun ys => ys = List.finRange m) (fun _ => True) m w := by
  intro l J Jx W hW hJ hJx hY h0
  have hu := Upd.below hW S0
  have hlt : ∀ {a : Addr} {v : Value}, w.cell? a = some v → W.cell? a = some v := fun {a v} h => (Upd.below hW (fun _ => False)).cell h id
  have HB := Lib.hid (hlt hb)
  have H39 := Lib.hid (hlt h39)
  have f40 := hlt h40
  have fb := hlt hb
  have Hns := Lib.hid (show ∀ i : Fin m, ∃ g off, an = some ⟨g, off, none⟩ ∧ ¬ S0 g ∧ W.cell? ⟨g, off + i.1, none⟩ = some (.string (nm i)) from fun i => by
    obtain ⟨g, off, h1, h2, h3⟩ := hns i; exact ⟨g, off, h1, h2, hlt h3⟩)
  have Hks := Lib.hid (show ∀ i : Fin m, ∃ g off, ak = some ⟨g, off, none⟩ ∧ ¬ S0 g ∧ W.cell? ⟨g, off + i.1, none⟩ = some (.pointer (some ⟨pt i, 0, none⟩)) from fun i => by
    obtain ⟨g, off, h1, h2, h3⟩ := hks i; exact ⟨g, off, h1, h2, hlt h3⟩)
  have HY := Lib.hid hY
  have Hb0 := Lib.hid (And.intro hb0 hp0)
  clear hb h39 h40 hns hks hlt hu hY hW hJ hJx hb0 hp0
  refine callsIn_of_wp Try.func78 rfl trivial ?_ rfl
  simp only [Try.ntmps78, List.size_toArray, List.length_cons, List.length_nil, Nat.reduceAdd, Nat.reduceSub, Array.replicate_succ, Array.replicate_zero, List.push_toArray, List.append_toArray, List.nil_append, List.cons_append]
  gi_wp2
  gi_loopw [10] (fun i wr => ∃ k : Nat, k ≤ m ∧ i = .int .i64 k ∧ J ((List.finRange m).take k) wr ∧ Upd S0 W wr) (fun i _ => m - (intOf i).toNat)
  case atStart => exact ⟨0, Nat.zero_le _, rfl, h0, Upd.refl _ _⟩
  case round =>
    obtain ⟨k, hk, rfl, hJs, hnx⟩ := hrel
    clear f40 fb
    by_cases hlt : k < m
    · obtain ⟨gn, on, rfl, hgn, cnm⟩ := Hns.out ⟨k, hlt⟩
      obtain ⟨gk, ok, rfl, hgk, ckm⟩ := Hks.out ⟨k, hlt⟩
      have c1 := hnx.cell cnm hgn
      have c2 := hnx.cell ckm hgk
      have c3 := hnx.cell HB.out Hb0.out.1
      have c4 := hnx.cell H39.out Hb0.out.2
      obtain ⟨fn, tmps, assign, body, hy, hR⟩ := HY.out _ ⟨k, hlt⟩ wr hJs (by simp; omega)
      dsimp only at hy c1 c2
      have HR := Lib.hid hR
      have Hnx := Lib.hid hnx
      have i1 : (0 : Int) ≤ (k : Int) := by omega
      have i2 : (k : Int) < (m : Int) := by omega
      clear hR hnx cnm ckm
      gi_wp2
      refine HR.out.mono ?_
      rintro e W3 (⟨rfl, hJ3, hk3⟩ | ⟨rfl, hJx3⟩)
      · gi_wp2
        go_roundw
        case rel => exact ⟨k + 1, by omega, by go_num, by rw [finRange_take m k hlt]; exact hJ3, Hnx.out.trans hk3⟩
        case measure => simp [intOf]; omega
      · gi_wp2
        refine bodyPost_ret (results_none rfl _ _ _) rfl ?_
        exact ⟨⟨_, rfl⟩, .inr ⟨_, trivial, hJx3⟩⟩
    · obtain rfl : k = m := by omega
      gi_wp2
      go_end0
      exact ⟨⟨_, rfl⟩, .inl ⟨_, rfl, by rw [List.take_of_length_le (by simp)] at hJs; exact hJs⟩⟩
end Go.Proofs.Ythnbinlllmkabaa
