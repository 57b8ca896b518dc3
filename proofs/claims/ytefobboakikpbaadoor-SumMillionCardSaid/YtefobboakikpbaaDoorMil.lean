/- The walk of SumMillion. -/
import Derived.Test.YtefobboakikpbaaDoorSha6
import Derived.Test.YtefobboakikpbaaDoorMilS
namespace Go.Proofs.YtefobboakikpbaaDoor
open Go.RowKit
set_option linter.unusedVariables false
set_option linter.unusedSimpArgs false

theorem len_any (w : World) (p : Nat) (g : Option Nat) (l : List UInt8) (h : HashAt w p g l) :
    Calls Tryd.prog 14 #[.pointer (some ⟨p, 0, none⟩)] w fun e w' => e = .returned (.int .i64 l.length) ∧ Below w.heap.size w w' := by
  obtain ⟨s, a, c, rest, hrow, _⟩ := h
  have f9 := cell_of_row w _ 9 _ _ _ hrow
  simp at f9
  clear hrow
  go_enter Tryd.func14, Tryd.ntmps14
  go_wp2
  go_ret
  exact ⟨rfl, Below.refl _ _⟩

def lettersH : List UInt8 := [48, 49, 50, 51, 52, 53, 54, 55, 56, 57, 97, 98, 99, 100, 101, 102]
def hexOf (x : UInt8) : List UInt8 := [lettersH.getD (x.toNat / 16) 0, lettersH.getD (x.toNat % 16) 0]
/-- The first k bytes as letters. -/
def hexTo (X : List UInt8) (k : Nat) : ByteArray := ⟨((X.take k).flatMap hexOf).toArray⟩
theorem cutH : ∀ q, q < 16 → (⟨#[48, 49, 50, 51, 52, 53, 54, 55, 56, 57, 97, 98, 99, 100, 101, 102]⟩ : ByteArray).extract q (q + 1) = ⟨#[lettersH.getD q 0]⟩ := by decide +kernel
theorem cutH_size (q : Nat) (h : q < 16) : ((⟨#[48, 49, 50, 51, 52, 53, 54, 55, 56, 57, 97, 98, 99, 100, 101, 102]⟩ : ByteArray).extract q (q + 1)).size = 1 := by rw [cutH q h]; rfl
theorem hexTo_size (X : List UInt8) (k : Nat) : (hexTo X k).size ≤ 2 * X.length := by
  have h : ∀ l : List UInt8, (l.flatMap hexOf).length = 2 * l.length := by
    intro l
    induction l with
    | nil => rfl
    | cons x l ih => rw [List.flatMap_cons, List.length_append, ih, List.length_cons]; show 2 + _ = _; omega
  show ((X.take k).flatMap hexOf).toArray.size ≤ _
  rw [List.size_toArray, h, List.length_take]
  omega
theorem mk_app (a b : List UInt8) : (⟨a.toArray⟩ : ByteArray) ++ ⟨b.toArray⟩ = ⟨(a ++ b).toArray⟩ := by
  apply ByteArray.ext
  simp
theorem hexTo_succ (X : List UInt8) (j : Nat) (h : j < X.length) (q m : Nat) (hq : q = X[j].toNat / 16) (hm : m = X[j].toNat % 16) (hq16 : q < 16) (hm16 : m < 16) :
    (hexTo X j ++ (⟨#[48, 49, 50, 51, 52, 53, 54, 55, 56, 57, 97, 98, 99, 100, 101, 102]⟩ : ByteArray).extract q (q + 1)) ++ (⟨#[48, 49, 50, 51, 52, 53, 54, 55, 56, 57, 97, 98, 99, 100, 101, 102]⟩ : ByteArray).extract m (m + 1) = hexTo X (j + 1) := by
  rw [cutH q hq16, cutH m hm16]
  unfold hexTo
  rw [List.take_succ_eq_append_getElem h, List.flatMap_append]
  have e1 : (⟨#[lettersH.getD q 0]⟩ : ByteArray) = ⟨[lettersH.getD q 0].toArray⟩ := rfl
  have e2 : (⟨#[lettersH.getD m 0]⟩ : ByteArray) = ⟨[lettersH.getD m 0].toArray⟩ := rfl
  rw [e1, e2, mk_app, mk_app, List.append_assoc, hq, hm]
  rfl

set_option maxHeartbeats 2000000 in
set_option maxRecDepth 100000 in
theorem million_any (w : World) (hk : KeysAt w) (hbg : BeginAt w) :
    Calls Tryd.prog 3 #[] w fun e w' => e = .returned (.bool true) ∧ Below w.heap.size w w' := by
  obtain ⟨Z, hZ⟩ : ∃ Z : Array Value, Z = Array.replicate 32 (.int .u8 0) := ⟨_, rfl⟩
  have hbg1 : ∀ o, BeginAt (w.alloc o) := fun o => hbg.below ((Below.refl _ _).alloc (Nat.le_refl _) o)
  have hwl := hk.lt
  have Hk := Lib.hid hk
  have Hbg := Lib.hid hbg
  have Hbg1 := Lib.hid hbg1
  have HZ := Lib.hid hZ
  clear hk hbg hbg1 hZ
  go_enter Tryd.func3, Tryd.ntmps3
  go_wp2_with fail
  refine (new_any w Hbg.out).mono ?_
  rintro e w1 ⟨rfl, hh1, hb1, hs1⟩
  have Hh1 := Lib.hid hh1
  have Hb1 := Lib.hid hb1
  have Hs1 := Lib.hid hs1
  clear hh1 hb1 hs1
  obtain ⟨N, hN⟩ : ∃ N : Nat, N = 1000 := ⟨_, rfl⟩
  have hN0 : N ≤ 1000 := by omega
  have HN := Lib.hid hN
  clear hN
  obtain ⟨i0, hi, hz0, hz1, hz2⟩ := info_parts info_byte
  go_wp2_with (at_make; refine wpList_make_full _ rfl _ _ 24 rfl w1.heap.size 5 i0 (.int .u8 0) 1 Tryd.underlying24 hi hz0 hz1 _ _ _ _ N rfl rfl (by rw [HN.out]; rfl) (by rw [HN.out]; rfl) (by rw [hz2, HN.out]; decide) (by rw [HN.out]; decide) (Nat.le_refl _) ?_)
  intro w2 hown2 hg2
  have hown2' := Own.ofRow hown2
  clear hown2
  generalize (madeCells #[Value.int .u8 0] N).toList = xs2 at hown2'
  have hbw2 : Below w.heap.size w w2 := Hb1.out.grown hg2 (by have := Hb1.out.size; omega) (by simp)
  have hh2 : HashAt w2 w.heap.size none [] := Hh1.out.kept ((Upd.refl (fun _ => False) _).grown hg2 (by simp)) id (fun _ _ => id)
  have hs2 : w1.heap.size = w.heap.size + 1 := Hs1.out
  have Hown2 := Lib.hid hown2'
  have Hbw2 := Lib.hid hbw2
  have Hh2 := Lib.hid hh2
  have Hs2 := Lib.hid hs2
  clear hown2' hg2 hbw2 hh2 hs2 Hb1 Hs1 Hh1 hi hz0 hz1 hz2
  go_wp2_with fail
  go_loopw [3] (fun i wr => ∃ (k : Nat) (xs : List Value), k ≤ N ∧ i = .int .i64 k ∧ Own wr 5 1 (.slice (some ⟨w1.heap.size, 0, none⟩) N N) N xs ∧ (∀ j, j < k → xs[j]? = some (.int .u8 97)) ∧
      Below w.heap.size w wr ∧ HashAt wr w.heap.size none []) (fun i _ => N - (intOf i).toNat)
  case atStart => exact ⟨0, xs2, Nat.zero_le _, rfl, Hown2.out, fun j hj => absurd hj (Nat.not_lt_zero _), Hbw2.out, Hh2.out⟩
  case round =>
    obtain ⟨k, xs, hk, rfl, hown, hxs, hbe, hh⟩ := hrel
    have hxl : xs.length = N := by simpa using hown.1
    have hbl := Hbw2.out.size
    by_cases hlt : k < N
    · obtain ⟨g, off, cap, cur, hv, _, _, _, hcell, hfr⟩ := hown.cells (ne_nil_of_length (by omega))
      obtain ⟨⟨rfl, rfl⟩, rfl⟩ : (w1.heap.size = g ∧ 0 = off) ∧ N = cap := by simpa using hv
      have f0 := hcell k _ (List.getElem?_eq_getElem (by omega))
      have fz := hfr k
      rw [Nat.zero_add] at f0
      generalize xs[k]'(by omega) = old at f0
      have Hown := Lib.hid hown
      have Hxs := Lib.hid hxs
      have Hbe := Lib.hid hbe
      have Hh := Lib.hid hh
      have Hs := Lib.hid hbl
      have Hxl := Lib.hid hxl
      clear hown hxs hbe hh hv hcell hfr hbl hxl
      go_wp2
      go_roundw
      case rel =>
        refine ⟨k + 1, xs.set k (.int .u8 97), hlt, by go_num, ?_, ?_, ?_, ?_⟩
        · have h := Hown.out.set k (.int .u8 97) (by omega)
          rw [Nat.zero_add] at h
          exact h
        · intro j hj
          by_cases h : j = k
          · subst h; rw [List.getElem?_set_self (by rw [Hxl.out]; exact hlt)]
          · rw [List.getElem?_set_ne (fun e => h e.symm)]; exact Hxs.out j (by omega)
        · exact Hbe.out.setCell (by rw [Hs2.out]; exact Nat.le_succ _) _
        · exact Hh.out.kept ((Upd.refl (fun b => b = w1.heap.size) _).setCell _ _ (fun _ => rfl)) (by rw [Hs2.out]; omega) (by simp)
      case measure => simp [intOf]; omega
    · have hx : xs = bytes (List.replicate N 97) := by
        apply List.ext_getElem?
        intro j
        by_cases hj : j < N
        · rw [hxs j (by omega), bytes_get _ _ (by simpa using hj)]; simp
        · rw [List.getElem?_eq_none (by omega), List.getElem?_eq_none (by rw [bytes_length]; simp; omega)]
      have hsl : Sl wr 1 (.slice (some ⟨w1.heap.size, 0, none⟩) N N) N (bytes (List.replicate N 97)) := by rw [← hx]; exact hown.sl
      have hhh : w.heap.size < wr.heap.size ∧ w1.heap.size < wr.heap.size := ⟨hh.lt.1, hown.lt (by simp [Value.ownBlock])⟩
      have Hsl := Lib.hid hsl
      have Hbe := Lib.hid hbe
      have Hh := Lib.hid hh
      obtain ⟨B, hB⟩ : ∃ B, B = wr.heap.size := ⟨_, rfl⟩
      rw [← hB] at hhh
      have Hhh := Lib.hid hhh
      have HB := Lib.hid hB
      clear hown hxs hbe hh hbl hxl hx hsl hhh hB
      go_wp2_with fail
      go_loopw [4] (fun i wq => ∃ (k : Nat) (g : Option Nat), k ≤ 1000 ∧ i = .int .i64 k ∧ HashAt wq w.heap.size g (List.replicate (k * N) 97) ∧ (∀ b, g = some b → B ≤ b) ∧
          Sl wq 1 (.slice (some ⟨w1.heap.size, 0, none⟩) N N) N (bytes (List.replicate N 97)) ∧ Below w.heap.size w wq ∧ B ≤ wq.heap.size) (fun i _ => 1000 - (intOf i).toNat)
      case atStart => exact ⟨0, none, Nat.zero_le _, rfl, by rw [Nat.zero_mul]; exact Hh.out, by simp, Hsl.out, Hbe.out, Nat.le_of_eq HB.out⟩
      case round =>
        obtain ⟨k', g, hk', rfl, hh, hg, hsl, hbe, hsz⟩ := hrel
        have Hh := Lib.hid hh
        have Hg := Lib.hid hg
        have Hsl := Lib.hid hsl
        have Hbe := Lib.hid hbe
        have Hsz := Lib.hid hsz
        clear hh hg hsl hbe hsz
        by_cases hlt' : k' < 1000
        · go_wp2_with fail
          have hadd := add_any wr w.heap.size g (List.replicate (k' * N) 97) Hh.out (some ⟨w1.heap.size, 0, none⟩) N (List.replicate N 97)
          simp only [List.length_replicate] at hadd
          refine (hadd Hsl.out (Hk.out.below Hbe.out) (by rw [HN.out]; omega) (by omega) (fun h => by have := Hg.out _ h; have := Hhh.out.1; omega)).mono ?_
          rintro e w4 ⟨rfl, g', hh4, hg4, hu4⟩
          have hB1 := Hhh.out.1
          have hB2 := Hhh.out.2
          have hB3 := Hsz.out
          have hS : ∀ b, (b = w.heap.size ∨ g = some b) → w.heap.size ≤ b ∧ b ≠ w1.heap.size := by
            rintro b (rfl | h)
            · exact ⟨Nat.le_refl _, by rw [Hs2.out]; omega⟩
            · have := Hg.out b h; omega
          have hbe4 := Hbe.out.upd (Nat.le_refl _) hu4 (fun b h => (hS b h).1)
          have hsl4 := Hsl.out.kept hu4 (fun b hb _ h => by simp [Value.ownBlock] at hb; exact (hS b h).2 hb.symm)
          have hg4' : ∀ b, g' = some b → B ≤ b := fun b hb => by
            rcases hg4 b hb with h | h
            · exact Hg.out b h
            · omega
          have hsz4 : B ≤ w4.heap.size := Nat.le_trans hB3 hu4.size
          rw [List.replicate_append_replicate, ← Nat.succ_mul] at hh4
          have Hh4 := Lib.hid hh4
          have Hbe4 := Lib.hid hbe4
          have Hsl4 := Lib.hid hsl4
          have Hg4 := Lib.hid hg4'
          have Hsz4 := Lib.hid hsz4
          clear hadd hh4 hg4 hu4 hS hbe4 hsl4 hg4' hsz4 hB1 hB2 hB3
          go_wp2
          go_roundw
          case rel => exact ⟨k' + 1, g', hlt', by go_num, Hh4.out, Hg4.out, Hsl4.out, Hbe4.out, Hsz4.out⟩
          case measure => simp [intOf]; omega
        · have hke : k' = 1000 := by omega
          have hke2 : k' * N = 1000000 := by rw [hke, HN.out]
          have hh := Hh.out
          rw [hke2] at hh
          have Hh5 := Lib.hid hh
          clear hh hke hke2
          go_wp2_with fail
          refine (sum_any wr w.heap.size g (List.replicate 1000000 97) Hh5.out (Hk.out.below Hbe.out) (by rw [List.length_replicate]; decide)).mono ?_
          rintro e w5 ⟨rfl, hb5⟩
          rw [sha_million]
          obtain ⟨X, hX⟩ : ∃ X : List UInt8, X = [205, 199, 110, 92, 153, 20, 251, 146, 129, 161, 199, 226, 132, 215, 62, 103, 241, 128, 154, 72, 164, 151, 32, 14, 4, 109, 57, 204, 199, 17, 44, 208] := ⟨_, rfl⟩
          rw [← hX]
          obtain ⟨C, hC⟩ : ∃ C, C = (bytes X).toArray := ⟨_, rfl⟩
          rw [← hC]
          have hXl : X.length = 32 := by rw [hX]; rfl
          have hCs : C.size = 32 := by rw [hC]; simp [bytes_length, hXl]
          have hCo : C.all (·.oneCell') = true := by rw [hC, Array.all_eq_true_iff_forall_mem]; intro u hu; exact bytes_one _ u (by simpa using hu)
          have HX := Lib.hid hX
          have HC := Lib.hid hC
          have HCs := Lib.hid hCs
          have HCo := Lib.hid hCo
          have HXl := Lib.hid hXl
          have Hb5 := Lib.hid hb5
          clear hX hC hb5 hXl hCs hCo
          go_wp2_with (refine wpList_store_row rfl 26 (.tmp 5) (.tmp 29) rfl w5.heap.size C rfl rfl 26 _ (heap_alloc_new w5 _) (by rw [HCs.out]; kernel_rfl) (by rw [HCs.out]; rfl) HCo.out ?_)
          have h6 := setRow_heap _ w5.heap.size _ C 26 (0, 0) (heap_alloc_new w5 (.cells #[.int .u8 0, .int .u8 0, .int .u8 0, .int .u8 0, .int .u8 0, .int .u8 0, .int .u8 0, .int .u8 0, .int .u8 0, .int .u8 0, .int .u8 0, .int .u8 0, .int .u8 0, .int .u8 0, .int .u8 0, .int .u8 0, .int .u8 0, .int .u8 0, .int .u8 0, .int .u8 0, .int .u8 0, .int .u8 0, .int .u8 0, .int .u8 0, .int .u8 0, .int .u8 0, .int .u8 0, .int .u8 0, .int .u8 0, .int .u8 0, .int .u8 0, .int .u8 0] 26))
          have hb6 : Below w.heap.size w ((w5.alloc (.cells #[.int .u8 0, .int .u8 0, .int .u8 0, .int .u8 0, .int .u8 0, .int .u8 0, .int .u8 0, .int .u8 0, .int .u8 0, .int .u8 0, .int .u8 0, .int .u8 0, .int .u8 0, .int .u8 0, .int .u8 0, .int .u8 0, .int .u8 0, .int .u8 0, .int .u8 0, .int .u8 0, .int .u8 0, .int .u8 0, .int .u8 0, .int .u8 0, .int .u8 0, .int .u8 0, .int .u8 0, .int .u8 0, .int .u8 0, .int .u8 0, .int .u8 0, .int .u8 0] 26)).setRow w5.heap.size C) :=
            below_setRow ((Hbe.out.trans (Hb5.out.mono Hbe.out.size)).alloc (Nat.le_trans Hbe.out.size Hb5.out.size) _) (Nat.le_trans Hbe.out.size Hb5.out.size) C
          have hh6 : HashAt ((w5.alloc (.cells #[.int .u8 0, .int .u8 0, .int .u8 0, .int .u8 0, .int .u8 0, .int .u8 0, .int .u8 0, .int .u8 0, .int .u8 0, .int .u8 0, .int .u8 0, .int .u8 0, .int .u8 0, .int .u8 0, .int .u8 0, .int .u8 0, .int .u8 0, .int .u8 0, .int .u8 0, .int .u8 0, .int .u8 0, .int .u8 0, .int .u8 0, .int .u8 0, .int .u8 0, .int .u8 0, .int .u8 0, .int .u8 0, .int .u8 0, .int .u8 0, .int .u8 0, .int .u8 0] 26)).setRow w5.heap.size C) w.heap.size g (List.replicate 1000000 97) :=
            Hh5.out.kept (Upd.below (below_setRow ((Hb5.out).alloc Hb5.out.size _) Hb5.out.size C) (fun _ => False)) id (fun _ _ => id)
          generalize (w5.alloc (.cells #[.int .u8 0, .int .u8 0, .int .u8 0, .int .u8 0, .int .u8 0, .int .u8 0, .int .u8 0, .int .u8 0, .int .u8 0, .int .u8 0, .int .u8 0, .int .u8 0, .int .u8 0, .int .u8 0, .int .u8 0, .int .u8 0, .int .u8 0, .int .u8 0, .int .u8 0, .int .u8 0, .int .u8 0, .int .u8 0, .int .u8 0, .int .u8 0, .int .u8 0, .int .u8 0, .int .u8 0, .int .u8 0, .int .u8 0, .int .u8 0, .int .u8 0, .int .u8 0] 26)).setRow w5.heap.size C = w6 at *
          generalize w5.heap.size = xb at *
          have H6 := Lib.hid h6
          have Hb6 := Lib.hid hb6
          have Hh6 := Lib.hid hh6
          clear h6 hb6 hh6 Hh5 Hb5 Hbe Hsl Hg Hh Hsz
          have hdec : decide (((k' : Nat) : Int) < 1000) = false := by simp; omega
          rw [hdec]
          clear hdec hlt' hk' hk hlt
          go_loopw [6, 7] (fun s i wz => ∃ k : Nat, k ≤ 32 ∧ i = .int .i64 k ∧ s = .string (hexTo X k) ∧ Upd (fun _ => False) w6 wz) (fun _ i _ => 32 - (intOf i).toNat)
          case atStart => exact ⟨0, Nat.zero_le _, rfl, rfl, Upd.refl _ _⟩
          case round =>
            obtain ⟨j, hj, rfl, rfl, hu⟩ := hrel
            have Hu := Lib.hid hu
            clear hu
            by_cases hlj : j < 32
            · have hxj : j < X.length := by rw [HXl.out]; exact hlj
              obtain ⟨x, hx⟩ : ∃ x, x = X[j] := ⟨_, rfl⟩
              have f0 : wr.cell? ⟨xb, j, none⟩ = some (.int .u8 x.toNat) := by
                rw [cell_of_row wr xb j C _ _ (Hu.out.at_ H6.out id), HC.out]
                have := bytes_get X j hxj
                rw [← hx] at this
                simpa using this
              have Hx := Lib.hid hx
              have hx256 := x.toNat_lt
              clear hx
              obtain ⟨q, hq⟩ : ∃ q : Nat, q = x.toNat / 16 := ⟨_, rfl⟩
              obtain ⟨m, hm⟩ : ∃ m : Nat, m = x.toNat % 16 := ⟨_, rfl⟩
              have hq16 : q < 16 := by omega
              have hm16 : m < 16 := by omega
              have q1 : (x.toNat : Int).tdiv 16 = (q : Int) := by rw [hq, Int.tdiv_eq_ediv_of_nonneg (by omega)]; omega
              have q2 : (x.toNat : Int).tmod 16 = (m : Int) := by rw [hm, Int.tmod_eq_emod_of_nonneg (by omega)]; omega
              have w1' : IntKind.u8.wrap ((q : Int)) = (q : Int) := by rw [IntKind.wrap_u8]; omega
              have w2' : IntKind.u8.wrap ((q : Int) + 1) = (q : Int) + 1 := by rw [IntKind.wrap_u8]; omega
              have w3' : IntKind.u8.wrap ((m : Int)) = (m : Int) := by rw [IntKind.wrap_u8]; omega
              have w4' : IntKind.u8.wrap ((m : Int) + 1) = (m : Int) + 1 := by rw [IntKind.wrap_u8]; omega
              have c1 : (0 : Int) ≤ (q : Int) + 1 := by omega
              have c2 : (q : Int) + 1 ≤ 16 := by omega
              have c3 : (q : Int) ≤ (q : Int) + 1 := by omega
              have d1 : (0 : Int) ≤ (m : Int) + 1 := by omega
              have d2 : (m : Int) + 1 ≤ 16 := by omega
              have d3 : (m : Int) ≤ (m : Int) + 1 := by omega
              have hsz := hexTo_size X j
              rw [HXl.out] at hsz
              have s1 := fun w => run_string_add_sum (P := Tryd.prog) (w := w) (hexTo X j) ((⟨#[48, 49, 50, 51, 52, 53, 54, 55, 56, 57, 97, 98, 99, 100, 101, 102]⟩ : ByteArray).extract q (q + 1)) (by rw [cutH_size q hq16]; omega)
              have s2 := fun w => run_string_add_sum (P := Tryd.prog) (w := w) (hexTo X j ++ (⟨#[48, 49, 50, 51, 52, 53, 54, 55, 56, 57, 97, 98, 99, 100, 101, 102]⟩ : ByteArray).extract q (q + 1)) ((⟨#[48, 49, 50, 51, 52, 53, 54, 55, 56, 57, 97, 98, 99, 100, 101, 102]⟩ : ByteArray).extract m (m + 1)) (by rw [ByteArray.size_append, cutH_size q hq16, cutH_size m hm16]; omega)
              have hst := hexTo_succ X j hxj q m (by rw [hq, Hx.out]) (by rw [hm, Hx.out]) hq16 hm16
              have Hst := Lib.hid hst
              clear hst hsz
              have Hq := Lib.hid hq
              have Hm := Lib.hid hm
              clear hq hm
              go_wp2_with fail
              go_quiet (fail)
              go_wp2
              go_roundw
              case rel => exact ⟨j + 1, hlj, by go_num, by rw [← Hst.out], by repeat (first | exact Hu.out | apply Upd.drewN | apply Upd.drew)⟩
              case measure => simp [intOf]; omega
            · obtain rfl : j = 32 := by omega
              have hs : hexTo X 32 = ⟨#[99, 100, 99, 55, 54, 101, 53, 99, 57, 57, 49, 52, 102, 98, 57, 50, 56, 49, 97, 49, 99, 55, 101, 50, 56, 52, 100, 55, 51, 101, 54, 55, 102, 49, 56, 48, 57, 97, 52, 56, 97, 52, 57, 55, 50, 48, 48, 101, 48, 52, 54, 100, 51, 57, 99, 99, 99, 55, 49, 49, 50, 99, 100, 48]⟩ := by rw [HX.out]; decide +kernel
              rw [hs]
              clear hs
              have hh7 := Hh6.out.kept Hu.out id (fun _ _ => id)
              have hb7 : Below w.heap.size w wr := Hb6.out.upd (Nat.le_refl _) Hu.out (fun _ h => h.elim)
              have Hh7 := Lib.hid hh7
              have Hb7 := Lib.hid hb7
              clear hh7 hb7
              go_wp2_with fail
              refine (len_any wr w.heap.size g (List.replicate 1000000 97) Hh7.out).mono ?_
              rintro e w8 ⟨rfl, hb8⟩
              rw [List.length_replicate]
              have hb9 : Below w.heap.size w w8 := Hb7.out.trans (hb8.mono Hb7.out.size)
              have Hb9 := Lib.hid hb9
              clear hb8 hb9
              go_wp2
              go_ret
              exact ⟨rfl, Hb9.out⟩
end Go.Proofs.YtefobboakikpbaaDoor
