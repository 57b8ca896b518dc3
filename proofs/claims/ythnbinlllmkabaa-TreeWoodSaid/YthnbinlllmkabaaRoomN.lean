/- The room of nodes: the words and rows behind a list. -/
import Derived.Test.YthnbinlllmkabaaSpoil
namespace Go.Proofs.Ythnbinlllmkabaa
open Go.RowKit
set_option linter.unusedVariables false
set_option linter.unusedSimpArgs false

/-- The name of a node behind a list. -/
def wordOf (i : Nat) : ByteArray := if i % 2 = 0 then ⟨#[60, 111, 110, 101, 62]⟩ else ⟨#[60, 116, 119, 111, 62]⟩
theorem word_any (w : World) (i : Nat) (hi : i ≤ 4611686018427387904) :
    Calls Try.prog 107 #[.int .i64 (i : Nat)] w fun e w' => e = .returned (.string (wordOf i)) ∧ w' = w := by
  unfold wordOf
  by_cases h : i % 2 = 0
  · have tb : (((i : Int) % 2) == 0) = true := by rw [beq_iff_eq]; omega
    rw [if_pos h]
    clear h
    go_enter Try.func107, Try.ntmps107
    go_wp2
    go_ret
    exact ⟨rfl, rfl⟩
  · have tb : (((i : Int) % 2) == 0) = false := by rw [beq_eq_false_iff_ne]; omega
    rw [if_neg h]
    clear h
    go_enter Try.func107, Try.ntmps107
    go_wp2
    go_ret
    exact ⟨rfl, rfl⟩
/-- A node behind a list. -/
def plainNd (s : ByteArray) : Nd := .mk s ⟨0, 0, 0, zeros⟩ noMk []
theorem plainNd_wf (s : ByteArray) : (plainNd s).v.wf :=
  ⟨rfl, (by show i64 (0 : Int); unfold i64; omega), (by show i64 (0 : Int); unfold i64; omega), (by show i64 (0 : Int); unfold i64; omega)⟩
theorem build_plain (s : ByteArray) (w : World) : (Instr.build 30 #[(0, .string s)]).run Try.prog w = .ok (.agg ((plainNd s).row none 0).toArray) w := by kernel_rfl
/-- The nodes behind a list. -/
def spares (n : Nat) : List Nd := (List.range n).map fun i => plainNd (wordOf i)
theorem spares_length (n : Nat) : (spares n).length = n := by simp [spares]
theorem spares_succ (n : Nat) : spares (n + 1) = spares n ++ [plainNd (wordOf n)] := by simp [spares, List.range_succ]
/-- At p lies a room, in which lists of nodes were laid. -/
def RoomN (w : World) (p : Nat) (vn va : Value) : Prop :=
  w.heap[p]? = some (.cells #[.slice none 0 0, .slice none 0 0, .slice none 0 0, .slice none 0 0, .slice none 0 0, .slice none 0 0, .slice none 0 0, .slice none 0 0, .slice none 0 0, .slice none 0 0, .slice none 0 0, .slice none 0 0, .slice none 0 0, .slice none 0 0, .slice none 0 0, .slice none 0 0, .slice none 0 0, .slice none 0 0,
    .slice none 0 0, .slice none 0 0, .slice none 0 0, .slice none 0 0, vn, va, .slice none 0 0, .slice none 0 0] 48 (0, 0))
/-- Children laid apart in a list of rows with more behind. -/
theorem KidsSep.ofRows {w : World} {d g off : Nat} {F : Nat → Prop} {ks more : List Nd} {al am : List (Option Addr × Nat)} (Fs : Nat → Nat → Prop) (hg : F g) (hl : ks.length = al.length) (hlm : more.length = am.length) (hr : w.rangeAt g off (rowsOf (ks ++ more) (al ++ am))) (hrow : ∃ cur, w.heap[g]? = some (.cells cur 30 (0, 0)))
    (hwf : ∀ k ∈ ks ++ more, k.v.wf) (hk : ∀ j x a' c', ks[j]? = some x → al[j]? = some (a', c') → mwf x.m ∧ x.name.size ≤ 9223372036854775807 ∧ x.kids.length ≤ 9223372036854775807 ∧ KidsSep w d (Fs j) a' x.kids)
    (hF : ∀ j b, Fs j b → F b ∧ b ≠ g) (hap : ∀ i j b, i ≠ j → Fs i b → ¬ Fs j b) : KidsSep w (d + 1) F (some ⟨g, off, none⟩) ks := by
  refine .inr ⟨g, off, al, Fs, rfl, hg, hl, hrow, fun j x a' c' hx ha => ?_, hF, hap⟩
  obtain ⟨k1, k2, k3, k4⟩ := hk j x a' c' hx ha
  have hj := (List.getElem?_eq_some_iff.1 hx).1
  have hxw : x.v.wf := hwf x (by
    obtain ⟨h1, h2⟩ := List.getElem?_eq_some_iff.1 hx
    rw [← h2]; exact List.mem_append_left _ (List.getElem_mem h1))
  refine ⟨fun i v hv => ?_, hxw, k3, k4, k1, k2⟩
  have hi : i < 41 := by have := (List.getElem?_eq_some_iff.1 hv).1; rwa [row_len hxw] at this
  have := hr (j * 41 + i) v (by
    rw [rowsOf_at (ks ++ more) (al ++ am) j x a' c' i hwf (by simp [hl, hlm]) (by rw [List.getElem?_append_left hj]; exact hx) (by rw [List.getElem?_append_left (by rw [← hl]; exact hj)]; exact ha) hi]
    exact hv)
  rw [Nat.add_assoc]
  exact this
end Go.Proofs.Ythnbinlllmkabaa
