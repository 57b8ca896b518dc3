/- A node that came in, as the frame tells of it. -/
import Derived.Test.YthnbinlllmkabaaNd
import Derived.OpenShut
import Derived.Deep.Slices
namespace Go.Proofs.Ythnbinlllmkabaa
open Go.RowKit
set_option linter.unusedVariables false
set_option linter.unusedSimpArgs false

section
variable {H : Type} {enc : TypeId × Value → H} {w : World} {base : Nat} {sp : Nat → Bool} {held : Bool}
theorem lit_i64 {n : Int} (h : (Lit.int .i64 n).wf = true) : i64 n := bounds_i64 h
theorem cells_int : Try.prog.cellsOf 3 = 1 := by kernel_rfl
theorem cells_u8 : Try.prog.cellsOf 5 = 1 := by kernel_rfl
theorem cells_mark : Try.prog.cellsOf 26 = 2 := by kernel_rfl
theorem cells_sum : Try.prog.cellsOf 22 = 32 := by kernel_rfl
theorem cells_marks : Try.prog.cellsOf 27 = 4 := by kernel_rfl
theorem cells_value : Try.prog.cellsOf 24 = 35 := by kernel_rfl
theorem cells_str : Try.prog.cellsOf 9 = 1 := by kernel_rfl
theorem cells_kids : Try.prog.cellsOf 28 = 1 := by kernel_rfl
theorem cells_node : Try.prog.cellsOf 30 = 41 := by kernel_rfl
theorem cell_spot {a : Addr} {v : Value} (h : w.cell? a = some v) : a.spot = none := by
  unfold World.cell? at h
  split at h
  · split at h
    · cases h
    · rename_i h2
      cases hs : a.spot with
      | none => rfl
      | some z => rw [hs] at h2; exact absurd rfl h2
  · cases h
theorem take1 {cs : List Value} {i : Nat} {v : Value} (h : (cs.drop i).take 1 = [v]) : cs[i]? = some v := by
  have : ((cs.drop i).take 1)[0]? = some v := by rw [h]; rfl
  simpa using this
theorem open_sum {fuel : Nat} {cs : List Value} {x : DataW H × List MemPlace} (h : DataW.trod enc Try.prog w base sp held fuel 22 cs = some x) : ∃ l : List UInt8, l.length = 32 ∧ cs = bytes l := by
  obtain ⟨xs, m, rfl, _, hl, hx, he⟩ := DataW.trod_array Try.underlying22 h
  rw [cells_sum] at hl
  have each : ∀ i, i < 32 → ∃ z : Int, cs[i]? = some (.int .u8 z) ∧ (Lit.int .u8 z).wf = true := fun i hi => by
    have h1 := he i hi
    rw [cells_u8, Nat.mul_one, List.getElem?_eq_getElem (by omega)] at h1
    obtain ⟨z, h2, _, h3⟩ := DataW.trod_int Try.underlying5 h1
    exact ⟨z, take1 h2, h3⟩
  obtain ⟨f, hf⟩ := Go.Deep.choose_lt each
  refine ⟨(List.range 32).map fun i => UInt8.ofNat (f i).toNat, by simp, ?_⟩
  apply List.ext_getElem?
  intro i
  by_cases hi : i < 32
  · rw [(hf i hi).1]
    rw [bytes, List.map_map, List.getElem?_map, List.getElem?_range hi]
    simp only [Option.map_some, Function.comp]
    rw [u8_of_wf (hf i hi).2]
  · rw [List.getElem?_eq_none (by omega), List.getElem?_eq_none (by simp [bytes]; omega)]
theorem split3 {cs : List Value} {a b c : Value} {n : Nat} (hl : cs.length = 3 + n) (h0 : cs[0]? = some a) (h1 : cs[1]? = some b) (h2 : cs[2]? = some c) : cs = a :: b :: c :: (cs.drop 3).take n := by
  match cs, hl with
  | x :: y :: z :: r, hl =>
    simp at h0 h1 h2 hl
    subst h0 h1 h2
    simp [List.take_of_length_le (Nat.le_of_eq (show r.length = n by omega))]
set_option maxRecDepth 100000 in
theorem open_value {fuel : Nat} {cs : List Value} {x : DataW H × List MemPlace} (h : DataW.trod enc Try.prog w base sp held fuel 24 cs = some x) : ∃ v : Vl, cs = v.cells ∧ v.wf := by
  obtain ⟨xs, m, rfl, _, hl, hx, he⟩ := DataW.trod_struct Try.underlying24 h
  rw [cells_value] at hl
  have hx4 : xs.length = 4 := hx
  have h0 : DataW.trod enc Try.prog w base sp held m 3 ((cs.drop 0).take (Try.prog.cellsOf 3)) = xs[0]? := he 0 _ rfl
  have h1 : DataW.trod enc Try.prog w base sp held m 3 ((cs.drop 1).take (Try.prog.cellsOf 3)) = xs[1]? := he 1 _ rfl
  have h2 : DataW.trod enc Try.prog w base sp held m 3 ((cs.drop 2).take (Try.prog.cellsOf 3)) = xs[2]? := he 2 _ rfl
  have h3 : DataW.trod enc Try.prog w base sp held m 22 ((cs.drop 3).take (Try.prog.cellsOf 22)) = xs[3]? := he 3 _ rfl
  rw [List.getElem?_eq_getElem (by omega), cells_int] at h0 h1 h2
  rw [List.getElem?_eq_getElem (by omega), cells_sum] at h3
  obtain ⟨z0, e0, _, w0⟩ := DataW.trod_int Try.underlying3 h0
  obtain ⟨z1, e1, _, w1⟩ := DataW.trod_int Try.underlying3 h1
  obtain ⟨z2, e2, _, w2⟩ := DataW.trod_int Try.underlying3 h2
  obtain ⟨l, hl32, e3⟩ := open_sum h3
  refine ⟨⟨z0, z1, z2, l⟩, ?_, hl32, lit_i64 w0, lit_i64 w1, lit_i64 w2⟩
  rw [split3 (n := 32) (by omega) (take1 e0) (take1 e1) (take1 e2), e3]
  rfl
set_option maxRecDepth 100000 in
theorem open_mark {fuel : Nat} {cs : List Value} {x : DataW H × List MemPlace} (h : DataW.trod enc Try.prog w base sp held fuel 26 cs = some x) : ∃ m : Mk, cs = [.int .i64 m.number, .int .i64 m.stamp] ∧ i64 m.number ∧ i64 m.stamp := by
  obtain ⟨xs, m, rfl, _, hl, hx, he⟩ := DataW.trod_struct Try.underlying26 h
  rw [cells_mark] at hl
  have hx2 : xs.length = 2 := hx
  have h0 : DataW.trod enc Try.prog w base sp held m 3 ((cs.drop 0).take (Try.prog.cellsOf 3)) = xs[0]? := he 0 _ rfl
  have h1 : DataW.trod enc Try.prog w base sp held m 3 ((cs.drop 1).take (Try.prog.cellsOf 3)) = xs[1]? := he 1 _ rfl
  rw [List.getElem?_eq_getElem (by omega), cells_int] at h0 h1
  obtain ⟨z0, e0, _, w0⟩ := DataW.trod_int Try.underlying3 h0
  obtain ⟨z1, e1, _, w1⟩ := DataW.trod_int Try.underlying3 h1
  refine ⟨⟨z0, z1⟩, ?_, lit_i64 w0, lit_i64 w1⟩
  have a0 := take1 e0
  have a1 := take1 e1
  match cs, hl with
  | [p, q], _ => simp at a0 a1; rw [a0, a1]
set_option maxRecDepth 100000 in
theorem open_marks {fuel : Nat} {cs : List Value} {x : DataW H × List MemPlace} (h : DataW.trod enc Try.prog w base sp held fuel 27 cs = some x) : ∃ m : Mk × Mk, cs = mcells m ∧ mwf m := by
  obtain ⟨xs, m, rfl, _, hl, hx, he⟩ := DataW.trod_array Try.underlying27 h
  rw [cells_marks] at hl
  have h0 := he 0 (by omega)
  have h1 := he 1 (by omega)
  rw [List.getElem?_eq_getElem (by omega), cells_mark] at h0 h1
  obtain ⟨m0, e0, a0, b0⟩ := open_mark h0
  obtain ⟨m1, e1, a1, b1⟩ := open_mark h1
  refine ⟨(m0, m1), ?_, a0, b0, a1, b1⟩
  match cs, hl with
  | [p, q, r, s], _ =>
    simp at e0 e1
    obtain ⟨rfl, rfl⟩ := e0
    obtain ⟨rfl, rfl⟩ := e1
    rfl
set_option maxRecDepth 100000 in
theorem open_node : ∀ (fuel : Nat) (cs : List Value) (x : DataW H × List MemPlace), DataW.trod enc Try.prog w base sp held fuel 30 cs = some x → ∃ (n : Nd) (a : Option Addr) (c : Nat), cs = n.row a c ∧ NodeIn w (fun b => b < w.heap.size) fuel n a
  | 0, cs, x, h => by simp [DataW.trod] at h
  | fuel + 1, cs, x, h => by
    obtain ⟨xs, m, hm, _, hl, hx, he⟩ := DataW.trod_struct Try.underlying30 h
    obtain rfl : fuel = m := Nat.succ.inj hm
    rw [cells_node] at hl
    have hx4 : xs.length = 4 := hx
    have h0 : DataW.trod enc Try.prog w base sp held fuel 9 ((cs.drop 0).take (Try.prog.cellsOf 9)) = xs[0]? := he 0 _ rfl
    have h1 : DataW.trod enc Try.prog w base sp held fuel 24 ((cs.drop 1).take (Try.prog.cellsOf 24)) = xs[1]? := he 1 _ rfl
    have h2 : DataW.trod enc Try.prog w base sp held fuel 27 ((cs.drop 36).take (Try.prog.cellsOf 27)) = xs[2]? := he 2 _ rfl
    have h3 : DataW.trod enc Try.prog w base sp held fuel 28 ((cs.drop 40).take (Try.prog.cellsOf 28)) = xs[3]? := he 3 _ rfl
    rw [List.getElem?_eq_getElem (by omega), cells_str] at h0
    rw [List.getElem?_eq_getElem (by omega), cells_value] at h1
    rw [List.getElem?_eq_getElem (by omega), cells_marks] at h2
    rw [List.getElem?_eq_getElem (by omega), cells_kids] at h3
    obtain ⟨s, e0, _, hs⟩ := DataW.trod_string Try.underlying9 h0
    obtain ⟨v, e1, hv⟩ := open_value h1
    obtain ⟨mm, e2, hmm⟩ := open_marks h2
    have hs' : s.size ≤ 9223372036854775807 := by simpa [maxLen] using hs
    have key : ∀ k : Value, (cs.drop 40).take 1 = [k] → cs = nrow s v mm k := fun k hk => by
      have d0 : cs = cs.take 1 ++ (cs.drop 1).take 35 ++ (cs.drop 36).take 4 ++ (cs.drop 40).take 1 := by
        have a1 : cs = cs.take 1 ++ cs.drop 1 := (List.take_append_drop 1 cs).symm
        have a2 : cs.drop 1 = (cs.drop 1).take 35 ++ (cs.drop 1).drop 35 := (List.take_append_drop 35 _).symm
        have a3 : cs.drop 36 = (cs.drop 36).take 4 ++ (cs.drop 36).drop 4 := (List.take_append_drop 4 _).symm
        rw [List.drop_drop] at a2 a3
        have a4 : (cs.drop 40).take 1 = cs.drop 40 := List.take_of_length_le (by simp [hl])
        rw [a4, List.append_assoc, List.append_assoc, ← a3, ← a2, ← a1]
      rw [List.drop_zero] at e0
      rw [d0, hk, e0, e1, e2]
      simp [nrow]
    rcases DataW.trod_slice Try.underlying28 h3 with ⟨e3, _⟩ | ⟨ad, len, cap, elems, rest, n', hf, e3, _, _, hlc, hcm, hel, hels, _, _⟩
    · exact ⟨.mk s v mm [], none, 0, key _ e3, hv, hmm, hs', by show (0 : Nat) ≤ _; omega, fun i k hk => by simp [Nd.kids] at hk⟩
    · have hspot : 0 < len → ad.spot = none := fun h0 => by
        have hi2 := hels 0 h0
        rw [cells_node, List.getElem?_eq_getElem (by omega)] at hi2
        obtain ⟨cs', hc, _⟩ := Option.bind_eq_some_iff.1 hi2
        obtain ⟨_, hcl, hcell⟩ := World.cells?_some hc
        have g0 := hcell 0 (by omega)
        rw [List.getElem?_eq_getElem (by omega)] at g0
        have := cell_spot g0
        simpa [Addr.add] using this
      have each : ∀ i, i < len → ∃ y : Nd × Option Addr × Nat, (∃ g off, ad = ⟨g, off, none⟩ ∧ g < w.heap.size ∧ w.rangeAt g (off + i * 41) (y.1.row y.2.1 y.2.2)) ∧ NodeIn w (fun b => b < w.heap.size) n' y.1 y.2.1 := fun i hi => by
        have hi2 := hels i hi
        rw [cells_node, List.getElem?_eq_getElem (by omega)] at hi2
        obtain ⟨cs', hc, ht⟩ := Option.bind_eq_some_iff.1 hi2
        obtain ⟨y, a', c', rfl, hn⟩ := open_node n' cs' _ ht
        obtain ⟨_, hcl, hcell⟩ := World.cells?_some hc
        refine ⟨(y, a', c'), ?_, hn⟩
        obtain ⟨g, off, spot⟩ := ad
        have g0 := hcell 0 (by omega)
        have hspn : spot = none := hspot (by omega)
        subst hspn
        refine ⟨g, off, rfl, ?_, fun j u hj => ?_⟩
        · rw [show (y.row a' c')[0]? = some (.string y.name) from rfl, add_off, add_off] at g0
          exact World.block_lt_of_cell? w _ g0
        · have hj41 : j < 41 := by have := (List.getElem?_eq_some_iff.1 hj).1; rw [← hcl]; exact this
          have := hcell j hj41
          rw [add_off, add_off] at this
          rw [this]
          exact hj
      obtain ⟨f, hf2⟩ := Go.Deep.choose_lt each
      have hkl : ((List.range len).map fun i => (f i).1).length = len := by simp
      refine ⟨.mk s v mm ((List.range len).map fun i => (f i).1), some ad, cap, ?_, hv, hmm, hs', ?_, ?_⟩
      · rw [key _ e3]
        show _ = nrow s v mm (.slice (some ad) ((List.range len).map fun i => (f i).1).length cap)
        rw [hkl]
      · show ((List.range len).map fun i => (f i).1).length ≤ _
        rw [hkl]
        simp [maxLen] at hcm
        omega
      · refine KidsIn.deeper (d := n' + 1) (fun i k hk => ?_) (by omega)
        have hi : i < len := by have := (List.getElem?_eq_some_iff.1 hk).1; simpa [Nd.kids] using this
        have hk2 : k = (f i).1 := by simp [Nd.kids, hi] at hk; exact hk.symm
        subst hk2
        obtain ⟨⟨g, off, rfl, hg, hr⟩, hn⟩ := hf2 i hi
        exact ⟨g, off, (f i).2.1, (f i).2.2, rfl, hg, hr, hn.vwf, hn.mwf, hn.nsz, hn.ksz, hn.kids⟩
end
end Go.Proofs.Ythnbinlllmkabaa
