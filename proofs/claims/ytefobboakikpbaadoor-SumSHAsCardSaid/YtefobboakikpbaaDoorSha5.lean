/- The contracts of sum.SHA and of pieces. -/
import Derived.Test.YtefobboakikpbaaDoorSha4
namespace Go.Proofs.YtefobboakikpbaaDoor
open Go.RowKit
set_option linter.unusedVariables false
set_option linter.unusedSimpArgs false

/-- v is a slice of slices of bytes, which read as these. -/
def Parts (w : World) (v : Value) (Ps : List (List UInt8)) : Prop :=
  ∃ vs, Sl w 1 v Ps.length vs ∧ ∀ i, i < Ps.length → ∃ a c, vs[i]? = some (.slice a (Ps.getD i []).length c) ∧ Sl w 1 (.slice a (Ps.getD i []).length c) (Ps.getD i []).length (bytes (Ps.getD i []))
theorem Parts.below {w w' : World} {v : Value} {Ps : List (List UInt8)} (h : Parts w v Ps) (hb : Below w.heap.size w w') : Parts w' v Ps := by
  obtain ⟨vs, h1, h2⟩ := h
  exact ⟨vs, h1.below hb, fun i hi => by obtain ⟨a, c, h3, h4⟩ := h2 i hi; exact ⟨a, c, h3, h4.below hb⟩⟩

theorem KeysAt.below {w w' : World} (h : KeysAt w) (hb : Below w.heap.size w w') : KeysAt w' := fun i hi => (hb.cell (block_lt_of_cell (h i hi))).trans (h i hi)
theorem KeysAt.lt {w : World} (h : KeysAt w) : 2 < w.heap.size := block_lt_of_cell (h 0 (by decide))
theorem BeginAt.below {w w' : World} (h : BeginAt w) (hb : Below w.heap.size w w') : BeginAt w' := fun j u hu => (hb.cell (block_lt_of_cell (h j u hu))).trans (h j u hu)

/-- The first k of some lists, one behind the other. -/
def joinTo (Ps : List (List UInt8)) (k : Nat) : List UInt8 := (Ps.take k).flatten
theorem joinTo_succ (Ps : List (List UInt8)) (k : Nat) (h : k < Ps.length) : joinTo Ps (k + 1) = joinTo Ps k ++ Ps.getD k [] := by
  unfold joinTo
  rw [List.take_succ_eq_append_getElem h, List.flatten_append, List.getD_eq_getElem?_getD, List.getElem?_eq_getElem h]
  simp only [List.flatten_cons, List.flatten_nil, List.append_nil, Option.getD_some]
theorem joinTo_le (Ps : List (List UInt8)) (k : Nat) : (joinTo Ps k).length ≤ Ps.flatten.length := by
  unfold joinTo
  conv => rhs; rw [← List.take_append_drop k Ps, List.flatten_append, List.length_append]
  omega

set_option maxHeartbeats 2000000 in
set_option maxRecDepth 100000 in
theorem SHA_any (w : World) (hk : KeysAt w) (hbg : BeginAt w) (ap : Option Addr) (cp : Nat) (Ps : List (List UInt8)) (hP : Parts w (.slice ap Ps.length cp) Ps) (hlen : Ps.flatten.length ≤ 70368744177664) (hnum : Ps.length ≤ 9223372036854775807) :
    Calls Tryd.prog 24 #[.slice ap Ps.length cp] w fun e w' => e = .returned (.agg (bytes (sha Ps.flatten)).toArray) ∧ Below w.heap.size w w' := by
  obtain ⟨Z, hZ⟩ : ∃ Z : Array Value, Z = Array.replicate 32 (.int .u8 0) := ⟨_, rfl⟩
  have hbg1 : ∀ o, BeginAt (w.alloc o) := fun o => hbg.below ((Below.refl _ _).alloc (Nat.le_refl _) o)
  have hwl := hk.lt
  have Hk := Lib.hid hk
  have Hbg1 := Lib.hid hbg1
  have HP := Lib.hid hP
  have HZ := Lib.hid hZ
  clear hk hbg hbg1 hP hZ
  go_enter Tryd.func24, Tryd.ntmps24
  go_wp2_with fail
  refine (new_any _ (Hbg1.out _)).mono ?_
  rintro e w1 ⟨rfl, hh1, hb1, hs1⟩
  have hz1 : w1.heap[w.heap.size]? = some (.cells Z 26 (0, 0)) := by
    rw [hb1.block _ (by simp), HZ.out]; exact heap_alloc_new _ _
  have hbw1 : Below w.heap.size w w1 := ((Below.refl _ _).alloc (Nat.le_refl _) _).trans (hb1.mono (by simp))
  have Hh1 := Lib.hid hh1
  have Hz1 := Lib.hid hz1
  have Hbw1 := Lib.hid hbw1
  clear hh1 hz1 hb1 hbw1 hs1
  go_wp2_with fail
  go_loopw [9] (fun i wr => ∃ (k : Nat) (g : Option Nat), k ≤ Ps.length ∧ i = .int .i64 k ∧ HashAt wr (w.heap.size + 1) g (joinTo Ps k) ∧ (∀ b, g = some b → w.heap.size < b) ∧ Below w.heap.size w wr ∧
      wr.heap[w.heap.size]? = some (.cells Z 26 (0, 0))) (fun i _ => Ps.length - (intOf i).toNat)
  case atStart => exact ⟨0, none, Nat.zero_le _, rfl, by simpa [joinTo] using Hh1.out, by simp, Hbw1.out, Hz1.out⟩
  case round =>
    obtain ⟨k, g, hk, rfl, hh, hg, hbe, hz⟩ := hrel
    have Hh := Lib.hid hh
    have Hg := Lib.hid hg
    have Hbe := Lib.hid hbe
    have Hz := Lib.hid hz
    clear hh hg hbe hz
    by_cases hlt : k < Ps.length
    · obtain ⟨vs, hv1, hv2⟩ := HP.out.below Hbe.out
      obtain ⟨a, c, hv3, hv4⟩ := hv2 k hlt
      have hvl : vs.length = Ps.length := by
        obtain ⟨_, _, _, h, _⟩ := hv1; simpa using h
      obtain ⟨gg, off, rfl, _, hcell⟩ := hv1.open_ (by omega)
      have f0 := hcell k _ hv3
      have hj := joinTo_succ Ps k hlt
      have hjl := joinTo_le Ps (k + 1)
      rw [hj, List.length_append] at hjl
      obtain ⟨x, hx⟩ : ∃ x, x = Ps.getD k [] := ⟨_, rfl⟩
      rw [← hx] at f0 hv4 hj hjl
      have Hj := Lib.hid hj
      have Hv4 := Lib.hid hv4
      clear hv1 hv2 hv3 hvl hcell hj hx hv4
      go_wp2_with fail
      refine (add_any wr (w.heap.size + 1) g (joinTo Ps k) Hh.out a c x Hv4.out (Hk.out.below Hbe.out) (by omega) (by omega) (fun h => by have := Hg.out _ h; omega)).mono ?_
      rintro e w4 ⟨rfl, g', hh4, hg4, hu4⟩
      have hS : ∀ b, (b = w.heap.size + 1 ∨ g = some b) → w.heap.size < b := by
        rintro b (rfl | h)
        · omega
        · exact Hg.out b h
      have hbe4 := Hbe.out.upd (Nat.le_refl _) hu4 (fun b h => Nat.le_of_lt (hS b h))
      have hz4 := hu4.at_ Hz.out (fun h => Nat.lt_irrefl _ (hS _ h))
      have hg4' : ∀ b, g' = some b → w.heap.size < b := fun b hb => by
        rcases hg4 b hb with h | h
        · exact Hg.out b h
        · have := lt_heap Hz.out; omega
      rw [← Hj.out] at hh4
      have Hh4 := Lib.hid hh4
      have Hbe4 := Lib.hid hbe4
      have Hz4 := Lib.hid hz4
      have Hg4 := Lib.hid hg4'
      clear hh4 hg4 hu4 hS hbe4 hz4 hg4'
      go_wp2
      go_roundw
      case rel => exact ⟨k + 1, g', hlt, by go_num, Hh4.out, Hg4.out, Hbe4.out, Hz4.out⟩
      case measure => simp [intOf]; omega
    · have Hkl := Lib.hid (show k = Ps.length by omega)
      have hje : joinTo Ps k = Ps.flatten := by rw [Hkl.out]; simp [joinTo]
      have hh := Hh.out
      rw [hje] at hh
      clear hje
      go_wp2_with fail
      refine (sum_any wr (w.heap.size + 1) g Ps.flatten hh (Hk.out.below Hbe.out) hlen).mono ?_
      rintro e w5 ⟨rfl, hb5⟩
      have hz5 := (hb5.block _ (lt_heap Hz.out)).trans Hz.out
      obtain ⟨C, hC⟩ : ∃ C, C = (bytes (sha Ps.flatten)).toArray := ⟨_, rfl⟩
      have hCs : C.size = 32 := by rw [hC]; simp [bytes_length, sha_length]
      have hCo : C.all (·.oneCell') = true := by rw [hC, Array.all_eq_true_iff_forall_mem]; intro u hu; exact bytes_one _ u (by simpa using hu)
      have hZs : Z.size = 32 := by rw [HZ.out]; simp
      rw [← hC]
      have HC := Lib.hid hC
      have HCs := Lib.hid hCs
      have HCo := Lib.hid hCo
      have HZs := Lib.hid hZs
      have Hz5 := Lib.hid hz5
      have Hb5 := Lib.hid hb5
      clear hC hCs hCo hZs hz5 hb5 hh
      go_wp2_with (refine wpList_store_row rfl 26 (.tmp 2) (.tmp 18) rfl w.heap.size C rfl rfl 26 Z Hz5.out (by rw [HCs.out]; kernel_rfl) (by rw [HCs.out, HZs.out]) HCo.out ?_)
      have hset := setRow_heap w5 w.heap.size Z C 26 (0, 0) Hz5.out
      refine bodyPost_ret (results_cell_row (P := Tryd.prog) Tryd.results24 _ _ w.heap.size 26 C (0, 0) _ rfl hset Tryd.underlying26 rfl (by rw [HCs.out]; kernel_rfl)) rfl ⟨?_, ?_⟩
      · rw [HC.out]
      · exact below_setRow (Hbe.out.upd (Nat.le_refl _) (Upd.below Hb5.out (fun _ => False)) (fun _ h => h.elim)) (Nat.le_refl _) C
end Go.Proofs.YtefobboakikpbaaDoor
