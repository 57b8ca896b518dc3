/- What SumLong calls: a turner's next. -/
import Derived.Test.YtefobboakikpbaaDoorParts
import Derived.Deep.RegionHeld3
namespace Go.Proofs.YtefobboakikpbaaDoor
open Go.RowKit
set_option linter.unusedVariables false
set_option linter.unusedSimpArgs false

theorem i64_and_nat (a b : Nat) (ha : a < 9223372036854775808) (hb : b < 9223372036854775808) : bits .and .i64 (a : Int) (b : Int) = ((a &&& b : Nat) : Int) := by
  have hx : a &&& b < 9223372036854775808 := Nat.lt_of_le_of_lt Nat.and_le_left ha
  have h64 : ∀ c : Nat, c < 9223372036854775808 → (BitVec.ofInt 64 (c : Int)).toNat = c := fun c hc => by
    rw [BitVec.ofInt_natCast, BitVec.toNat_ofNat]; exact Nat.mod_eq_of_lt (by omega)
  show IntKind.i64.wrap ((BitVec.ofInt 64 (a : Int) &&& BitVec.ofInt 64 (b : Int)).toNat : Int) = _
  rw [BitVec.toNat_and, h64 a ha, h64 b hb]
  exact IntWalk.i64_in _ (by omega)

set_option maxHeartbeats 1000000 in
theorem next_any (w : World) (X : Nat) (T : TypeId) (x : Nat) (hr : w.heap[X]? = some (.cells #[.int .i64 (x : Nat)] T (0, 0))) (hx : x < 2147483648) (n : Nat) (hn : 0 < n) (hn2 : n ≤ 2147483647) :
    Calls Tryd.prog 41 #[.pointer (some ⟨X, 0, none⟩), .int .i64 (n : Nat)] w fun e w' => ∃ (r x' : Nat), e = .returned (.int .i64 r) ∧ r < n ∧ x' < 2147483648 ∧ w'.heap[X]? = some (.cells #[.int .i64 (x' : Nat)] T (0, 0)) ∧ Upd (fun k => k = X) w w' := by
  have f0 := cell_of_row w _ 0 _ _ _ hr
  simp at f0
  have z0 := frozen_of_row w _ 0 _ _ hr
  have Hr := Lib.hid hr
  clear hr
  obtain ⟨x', hx', q⟩ : ∃ x' : Nat, x' < 2147483648 ∧ bits BinOp.and IntKind.i64 ((x : Int) * 1103515 + 12345) 2147483647 = (x' : Int) := by
    refine ⟨(x * 1103515 + 12345) &&& 2147483647, Nat.lt_of_le_of_lt Nat.and_le_right (by decide), ?_⟩
    rw [show ((x : Int) * 1103515 + 12345) = ((x * 1103515 + 12345 : Nat) : Int) by omega, show (2147483647 : Int) = ((2147483647 : Nat) : Int) from rfl]
    exact i64_and_nat _ _ (by omega) (by decide)
  go_enter Tryd.func41, Tryd.ntmps41
  have hne : (n : Int) ≠ 0 := by omega
  obtain ⟨r, hr⟩ : ∃ r, r = (x' / 64) % n := ⟨_, rfl⟩
  have hrn : r < n := by rw [hr]; exact Nat.mod_lt _ hn
  have e1 : (x' : Int).tdiv 64 = ((x' / 64 : Nat) : Int) := rfl
  have e2 : (((x' / 64 : Nat) : Int)).tmod (n : Int) = (r : Int) := by rw [hr]; rfl
  have e3 : ((x' : Int) / 64) % (n : Int) = (r : Int) := by rw [hr]; rfl
  have e4 : ((x' : Int) / 64).tmod (n : Int) = (r : Int) := by rw [hr]; rfl
  have HR := Lib.hid hrn
  clear hr hrn
  go_wp2
  go_ret
  refine ⟨r, x', rfl, HR.out, hx', ?_, (Upd.refl _ _).setCell _ _ (fun _ => rfl)⟩
  have h := heap_setCell_same w X 0 _ _ (.int .i64 (x' : Nat)) Hr.out
  simpa using h

theorem parts_row4 {e : World} {T : TypeId} {g2 : Nat} {a1 a2 : Option Addr} {q1 q2 c1 c2 : Nat} {x1 x2 : List UInt8} (h : e.heap[g2]? = some (.cells #[.slice none 0 0, .slice a1 q1 c1, .slice none 0 0, .slice a2 q2 c2] T (0, 0)))
    (h1 : x1.length = q1) (h2 : x2.length = q2) (s1 : Sl e 1 (.slice a1 q1 c1) q1 (bytes x1)) (s2 : Sl e 1 (.slice a2 q2 c2) q2 (bytes x2)) : Parts e (.slice (some ⟨g2, 0, none⟩) 4 4) [[], x1, [], x2] := by
  subst h1 h2
  refine ⟨[.slice none 0 0, .slice a1 x1.length c1, .slice none 0 0, .slice a2 x2.length c2], ⟨_, 4, rfl, rfl, by simp, fun _ => ⟨_, rfl, fun j u hj => ?_⟩⟩, fun i hi => ?_⟩
  · rw [add_off, cell_of_row e g2 _ _ T (0, 0) h, ← hj]; simp
  · have hi4 : i < 4 := by simpa using hi
    rcases (by omega : i = 0 ∨ i = 1 ∨ i = 2 ∨ i = 3) with rfl | rfl | rfl | rfl
    · exact ⟨none, 0, rfl, ⟨none, 0, rfl, rfl, by simp, fun h => absurd rfl h⟩⟩
    · exact ⟨a1, c1, rfl, s1⟩
    · exact ⟨none, 0, rfl, ⟨none, 0, rfl, rfl, by simp, fun h => absurd rfl h⟩⟩
    · exact ⟨a2, c2, rfl, s2⟩
theorem digest_at (w : World) (n : Nat) (hk : KeysAt w) (hbg : BeginAt w) (a : Option Addr) (c : Nat) (l : List UInt8) (hl : Sl w 1 (.slice a n c) n (bytes l)) (hn : l.length = n) (hlc : n ≤ c) (hlen : n ≤ 70368744177664) :
    Calls Tryd.prog 29 #[.slice a n c] w fun e w' => e = .returned (.agg (bytes (digest l)).toArray) ∧ Below w.heap.size w w' := by
  subst hn
  exact digest_any w hk hbg a c l hl hlc hlen

set_option maxHeartbeats 4000000 in
set_option maxRecDepth 100000 in
theorem long_any (w : World) (hk : KeysAt w) (hbg : BeginAt w) (hf : FoursAt w) (a b c : Int) (ha1 : -9223372036854775808 ≤ a) (ha2 : a ≤ 9223372036854775807) (hb1 : -9223372036854775808 ≤ b) (hb2 : b ≤ 9223372036854775807) (hc1 : -9223372036854775808 ≤ c) (hc2 : c ≤ 9223372036854775807) :
    Calls Tryd.prog 10 #[.int .i64 a, .int .i64 b, .int .i64 c] w fun e w' => e = .returned (.bool true) ∧ Below w.heap.size w w' := by
  obtain ⟨i0, hi, hz0, hz1', hz2'⟩ := info_parts info_byte
  have Hf := Lib.hid hf
  have Hk := Lib.hid hk
  have Hbg := Lib.hid hbg
  clear hf hk hbg
  go_enter Tryd.func10, Tryd.ntmps10
  go_wp2_with fail
  refine (place_any w b 400000 (by decide) (by decide) hb1 hb2).mono ?_
  rintro e w' ⟨⟨n, hn, rfl⟩, hw⟩
  obtain rfl := hw.symm
  go_wp2_with fail
  refine (place_any w c 5000 (by decide) (by decide) hc1 hc2).mono ?_
  rintro e w' ⟨⟨most, hmost, rfl⟩, hw⟩
  obtain rfl := hw.symm
  go_wp2_with fail
  refine (place_any w a 2147483647 (by decide) (by decide) ha1 ha2).mono ?_
  rintro e w' ⟨⟨x0, hx0, rfl⟩, hw⟩
  obtain rfl := hw.symm
  have hn4 : n < 400000 := by omega
  have hm4 : most < 5000 := by omega
  have hx04 : x0 < 2147483648 := by omega
  clear hn hmost hx0 ha1 ha2 hb1 hb2 hc1 hc2
  go_wp2_with (at_make; go_loud (refine wpList_make_full _ rfl _ _ 24 rfl w.heap.size 5 i0 (.int .u8 0) 1 Tryd.underlying24 hi hz0 hz1' _ _ _ _ n rfl rfl (by omega) (by omega) (by rw [hz2']; omega) (by unfold maxLen; omega) (by simp) ?_))
  intro w2 hown2 hg2
  have hown2' := Own.ofRow hown2
  clear hown2
  generalize (madeCells #[Value.int .u8 0] n).toList = xs2 at hown2'
  have hu2 : Below w.heap.size w w2 := (on_alloc (Below.refl _ _) _).grown hg2 (by simp) (by simp)
  have hx2 : w2.heap[w.heap.size]? = some (.cells #[.int .i64 (x0 : Nat)] 82 (0, 0)) := (hg2.block _ (by simp) (by simp)).trans (heap_alloc_new _ _)
  try simp only [World.size_alloc] at hown2'
  have Hown2 := Lib.hid hown2'
  have Hu2 := Lib.hid hu2
  have Hx2 := Lib.hid hx2
  clear hown2' hg2 hu2 hx2 hi hz0 hz1' hz2'
  go_wp2_with fail
  go_loopw [11] (fun i wr => ∃ (k x : Nat) (xs : List Value), k ≤ n ∧ i = .int .i64 k ∧ x < 2147483648 ∧ wr.heap[w.heap.size]? = some (.cells #[.int .i64 (x : Nat)] 82 (0, 0)) ∧ Own wr 5 1 (.slice (some ⟨w.heap.size + 1, 0, none⟩) n n) n xs ∧
      (∀ j, j < k → ∃ y : UInt8, xs[j]? = some (.int .u8 y.toNat)) ∧ Below w.heap.size w wr) (fun i _ => n - (intOf i).toNat)
  case atStart => exact ⟨0, x0, xs2, Nat.zero_le _, rfl, hx04, Hx2.out, Hown2.out, fun j hj => absurd hj (Nat.not_lt_zero _), Hu2.out⟩
  case round =>
    obtain ⟨k, x, xs, hk, rfl, hx, hrow, hown, hxs, hbe⟩ := hrel
    have hxl : xs.length = n := by simpa using hown.1
    have Hrow := Lib.hid hrow
    have Hown := Lib.hid hown
    have Hxs := Lib.hid hxs
    have Hbe := Lib.hid hbe
    have Hxl := Lib.hid hxl
    clear hrow hown hxs hbe hxl
    by_cases hlt : k < n
    · go_wp2_with fail
      refine (next_any wr w.heap.size _ x Hrow.out hx 256 (by decide) (by decide)).mono ?_
      rintro e w4 ⟨r, x', rfl, hr, hx', hrow4, hu4⟩
      have hown4 := Hown.out.kept hu4 (fun b hb h => by simp [Value.ownBlock] at hb; omega)
      obtain ⟨g, off, cap, cur, hv, _, _, _, hcell, hfr⟩ := hown4.cells (ne_nil_of_length (by rw [Hxl.out]; omega))
      obtain ⟨⟨rfl, rfl⟩, rfl⟩ : (w.heap.size + 1 = g ∧ 0 = off) ∧ n = cap := by simpa using hv
      have f0 := hcell k _ (List.getElem?_eq_getElem (by rw [Hxl.out]; omega))
      have fz := hfr k
      rw [Nat.zero_add] at f0
      generalize xs[k]'(by rw [Hxl.out]; omega) = old at f0
      have Hown4 := Lib.hid hown4
      have Hrow4 := Lib.hid hrow4
      have Hbe4 := Lib.hid (Hbe.out.upd (Nat.le_refl _) hu4 (fun i h => Nat.le_of_eq h.symm))
      have hrb : ((r : Int) % 256) = (r : Int) := by omega
      clear hown4 hrow4 hu4 hv hcell hfr
      go_wp2
      go_roundw
      case rel =>
        refine ⟨k + 1, x', xs.set k (.int .u8 (r : Nat)), by omega, by go_num, hx', ?_, ?_, ?_, ?_⟩
        · exact (heap_setCell_other _ _ _ _ (by simp)).trans Hrow4.out
        · have h := Hown4.out.set k (.int .u8 (r : Nat)) (by omega)
          rw [Nat.zero_add] at h
          exact h
        · intro j hj
          by_cases h : j = k
          · subst h; exact ⟨UInt8.ofNat r, by rw [List.getElem?_set_self (by rw [Hxl.out]; exact hlt), UInt8.toNat_ofNat', Nat.mod_eq_of_lt hr]⟩
          · rw [List.getElem?_set_ne (fun e => h e.symm)]; exact Hxs.out j (by omega)
        · exact Hbe4.out.setCell (Nat.le_succ _) _
      case measure => simp [intOf]; omega
    · obtain ⟨l, hl, hxs⟩ : ∃ l : List UInt8, l.length = n ∧ xs = bytes l := by
        refine ⟨xs.map (fun v => match v with | .int .u8 z => UInt8.ofNat z.toNat | _ => 0), by simp [Hxl.out], ?_⟩
        apply List.ext_getElem?
        intro j
        by_cases hj : j < n
        · obtain ⟨y, hy⟩ := Hxs.out j (by omega)
          simp [bytes, hy]
        · rw [List.getElem?_eq_none (by rw [Hxl.out]; omega), List.getElem?_eq_none (by simp [bytes, Hxl.out]; omega)]
      have hsl : Sl wr 1 (.slice (some ⟨w.heap.size + 1, 0, none⟩) n n) n (bytes l) := by rw [← hxs]; exact Hown.out.sl
      have Hl := Lib.hid hl
      have Hsl := Lib.hid hsl
      have hX : w.heap.size + 1 < wr.heap.size := Hown.out.lt rfl
      obtain ⟨F, hF⟩ : ∃ F, F = wr.heap.size := ⟨_, rfl⟩
      rw [← hF] at hX
      have HFe := Lib.hid hF
      have HF : F ≤ wr.heap.size := by omega
      clear hl hsl hxs hF Hown Hxs Hxl Hown2 Hu2 Hx2
      have hFw : w.heap.size < F := by omega
      go_wp2_with fail
      refine (new_any wr (Hbg.out.below Hbe.out)).mono ?_
      rintro e w5 ⟨rfl, hh5, hb5, hs5⟩
      rw [← HFe.out] at hh5 hs5 ⊢
      have Hh5 := Lib.hid hh5
      have Hs5 := Lib.hid hs5
      have Hbe5 := Lib.hid (Hbe.out.trans (hb5.mono Hbe.out.size))
      have Hrow5 := Lib.hid ((hb5.block _ (lt_heap Hrow.out)).trans Hrow.out)
      have Hsl5 := Lib.hid (Hsl.out.below hb5)
      clear hh5 hb5 hs5 Hrow Hsl Hbe HF
      go_wp2_with fail
      refine (newPieces_any w5 (Hbg.out.below Hbe5.out)).mono ?_
      rintro e w6 ⟨rfl, hp6, hb6⟩
      rw [Hs5.out] at hp6 ⊢
      have Hh6 := Lib.hid (Hh5.out.kept (Upd.below hb6 fun _ => False) id (fun _ _ => id))
      have Hp6 := Lib.hid hp6
      have Hbe6 := Lib.hid (Hbe5.out.trans (hb6.mono Hbe5.out.size))
      have Hrow6 := Lib.hid ((hb6.block _ (lt_heap Hrow5.out)).trans Hrow5.out)
      have Hsl6 := Lib.hid (Hsl5.out.below hb6)
      have hF2 := lt_heap hp6.1
      clear hp6 hb6 Hrow5 Hsl5 Hbe5 Hh5 Hs5
      go_wp2_with fail
      refine (known_any w6 (Hk.out.below Hbe6.out) (Hbg.out.below Hbe6.out) (Hf.out.below Hbe6.out)).mono ?_
      rintro e w7 ⟨rfl, hb7⟩
      have Hh7 := Lib.hid (Hh6.out.kept (Upd.below hb7 fun _ => False) id (fun _ _ => id))
      have Hp7 := Lib.hid (Hp6.out.kept (Upd.below hb7 fun _ => False) id id (fun _ _ => id))
      have Hbe7 := Lib.hid (Hbe6.out.trans (hb7.mono Hbe6.out.size))
      have Hrow7 := Lib.hid ((hb7.block _ (lt_heap Hrow6.out)).trans Hrow6.out)
      have Hsl7 := Lib.hid (Hsl6.out.below hb7)
      have hF7 : F + 1 + 1 < w7.heap.size := Nat.lt_of_lt_of_le hF2 hb7.size
      have HF7 := Lib.hid hF7
      have hwl := Hk.out.lt
      clear hb7 Hrow6 Hsl6 Hbe6 Hh6 Hp6 hF2 hF7
      rw [show (1 : Int) + (most : Int) = ((1 + most : Nat) : Int) by omega]
      obtain ⟨mm, hmm⟩ : ∃ mm, mm = 1 + most := ⟨_, rfl⟩
      have hmm1 : 0 < mm := by omega
      have hmm2 : mm ≤ 5000 := by omega
      rw [← hmm]
      clear hmm hm4 hlt hk
      go_wp2_with fail
      go_loopw [14] (fun i wr => ∃ (m x : Nat) (g : Option Nat), m ≤ n ∧ i = .int .i64 m ∧ x < 2147483648 ∧ wr.heap[w.heap.size]? = some (.cells #[.int .i64 (x : Nat)] 82 (0, 0)) ∧ HashAt wr F g (l.take m) ∧ (∀ b, g = some b → F + 1 + 1 < b) ∧
          PiecesAt wr (F + 1 + 1) (F + 1) none [] ∧ Sl wr 1 (.slice (some ⟨w.heap.size + 1, 0, none⟩) n n) n (bytes l) ∧ Below w.heap.size w wr ∧ F + 1 + 1 < wr.heap.size) (fun i _ => n - (intOf i).toNat)
      case atStart => exact ⟨0, x, none, Nat.zero_le _, rfl, hx, Hrow7.out, by simpa using Hh7.out, by simp, Hp7.out, Hsl7.out, Hbe7.out, HF7.out⟩
      case round =>
        clear Hh7 Hp7 Hbe7 Hrow7 Hsl7 HF7
        obtain ⟨m, x, g, hmn, rfl, hx, hrow, hh, hg, hp, hsl, hbe, hFr⟩ := hrel
        have Hrow := Lib.hid hrow
        have Hh := Lib.hid hh
        have Hg := Lib.hid hg
        have Hp := Lib.hid hp
        have Hslr := Lib.hid hsl
        have Hbr := Lib.hid hbe
        have HGr := Lib.hid hFr
        clear hrow hh hg hp hsl hbe hFr
        by_cases hlt : m < n
        · go_wp2_with fail
          refine (next_any wr w.heap.size _ x Hrow.out hx mm hmm1 (by omega)).mono ?_
          rintro e w8 ⟨r, x', rfl, hr, hx', hrow8, hu8⟩
          have Hrow8 := Lib.hid hrow8
          have Hh8 := Lib.hid (Hh.out.kept hu8 (by omega) (fun b hb h => by have := Hg.out b hb; omega))
          have Hp8 := Lib.hid (Hp.out.kept hu8 (by omega) (by omega) (fun b hb => by cases hb))
          have Hs8 := Lib.hid (Hslr.out.kept hu8 (fun b hb _ h => by simp [Value.ownBlock] at hb; omega))
          have Hb8 := Lib.hid (Hbr.out.upd (Nat.le_refl _) hu8 (fun b h => Nat.le_of_eq h.symm))
          have HG8 := Lib.hid (Nat.lt_of_lt_of_le HGr.out hu8.size)
          clear hrow8 hu8
          obtain ⟨d, hd⟩ : ∃ d, d = n - m := ⟨_, rfl⟩
          have e1 : (n : Int) - (m : Int) = (d : Int) := by omega
          have w1 : IntKind.i64.wrap ((n : Int) - (m : Int)) = (d : Int) := by rw [e1]; exact IntWalk.i64_in _ (by omega)
          obtain ⟨q, hq⟩ : ∃ q, q = if d < r + 1 then d else r + 1 := ⟨_, rfl⟩
          have f1 : (if (d : Int) < (r : Int) + 1 then (d : Int) else (r : Int) + 1) = (q : Int) := by rw [hq]; split <;> split <;> omega
          have f2 : (if d < r + 1 then (d : Int) else (r : Int) + 1) = (q : Int) := by rw [hq]; split <;> rfl
          have hq1 : 0 < q := by rw [hq]; split <;> omega
          have hq2 : m + q ≤ n := by rw [hq]; split <;> omega
          have hmq : m ≤ m + q := by omega
          obtain ⟨a4, hs4, _, _, hsl4, _⟩ := Hs8.out.cut Tryd.underlying24 size_byte m (m + q) hmq hq2 (Nat.le_refl _)
          have hcut := fun w => hs4 w m ((m : Int) + (q : Int)) rfl (by omega)
          have eq0 : m + q - m = q := by omega
          rw [eq0] at hcut hsl4
          simp only [Nat.mul_one] at hsl4
          obtain ⟨y, hy⟩ : ∃ y, y = (l.drop m).take q := ⟨_, rfl⟩
          have hyl : y.length = q := by rw [hy, List.length_take, List.length_drop, Hl.out]; omega
          have e4 : ((bytes l).drop m).take q = bytes y := by rw [hy]; simp [bytes, List.map_drop, List.map_take]
          rw [e4] at hsl4
          have htk : l.take m ++ y = l.take (m + q) := by rw [hy, List.take_add]
          have Htk := Lib.hid htk
          have Hyl := Lib.hid hyl
          have Hsl4 := Lib.hid hsl4
          have z0 : (0 : Int) ≤ (m : Int) := by omega
          have z1 : (m : Int) ≤ (m : Int) + (q : Int) := by omega
          have z2 : (m : Int) + (q : Int) ≤ (n : Int) := by omega
          have hd2 : d ≤ n := by omega
          have hrr : r ≤ 5000 := by omega
          clear hs4 hsl4 e4 htk hyl hy hq hd eq0
          go_wp2_with fail
          have hadd := add_any w8 F g (l.take m) Hh8.out a4 (n - m) y (by rw [Hyl.out]; exact Hsl4.out) (Hk.out.below Hb8.out) (by rw [Hyl.out, List.length_take]; omega) (by omega) (fun h => by have := Hg.out _ h; omega)
          rw [Hyl.out] at hadd
          refine hadd.mono ?_
          rintro e w9 ⟨rfl, g', hh9, hg9, hu9⟩
          have hS : ∀ b, (b = F ∨ g = some b) → w.heap.size < b ∧ b ≠ w.heap.size + 1 ∧ b ≠ F + 1 ∧ b ≠ F + 1 + 1 := by
            rintro b (rfl | h)
            · omega
            · have := Hg.out b h; omega
          rw [Htk.out] at hh9
          have Hh9 := Lib.hid hh9
          have Hb9 := Lib.hid (Hb8.out.upd (Nat.le_refl _) hu9 (fun b h => Nat.le_of_lt (hS b h).1))
          have Hrow9 := Lib.hid (hu9.at_ Hrow8.out (fun h => Nat.lt_irrefl _ (hS _ h).1))
          have Hp9 := Lib.hid (Hp8.out.kept hu9 (fun h => (hS _ h).2.2.2 rfl) (fun h => (hS _ h).2.2.1 rfl) (fun b hb => by cases hb))
          have Hs9 := Lib.hid (Hs8.out.kept hu9 (fun b hb _ h => (hS b h).2.1 (by simp [Value.ownBlock] at hb; exact hb.symm)))
          have HG9 := Lib.hid (Nat.lt_of_lt_of_le HG8.out hu9.size)
          have hg9' : ∀ b, g' = some b → F + 1 + 1 < b := fun b hb => by
            rcases hg9 b hb with h | h
            · exact Hg.out b h
            · have := HG8.out; omega
          have Hg9 := Lib.hid hg9'
          clear hadd hh9 hg9 hu9 hS hg9' hcut f1 f2 e1 w1
          go_wp2
          go_roundw
          case rel => exact ⟨m + q, x', g', hq2, by go_num, hx', Hrow9.out, Hh9.out, Hg9.out, Hp9.out, Hs9.out, Hb9.out, HG9.out⟩
          case measure => simp [intOf]; omega
        · have hh := Hh.out
          rw [List.take_of_length_le (by rw [Hl.out]; omega)] at hh
          have Hh := Lib.hid hh
          clear hh Hrow hx
          go_wp2_with fail
          go_loopw [16] (fun i wr => ∃ (k2 m : Nat) (gp : Option Nat), m < n + 512 ∧ i = .int .i64 m ∧ m = 512 * k2 ∧ HashAt wr F g l ∧ PiecesAt wr (F + 1 + 1) (F + 1) gp (shasTo l k2) ∧ (∀ b, gp = some b → F + 1 + 1 < b) ∧ (∀ b, g = some b → gp ≠ some b) ∧
              Sl wr 1 (.slice (some ⟨w.heap.size + 1, 0, none⟩) n n) n (bytes l) ∧ Below w.heap.size w wr ∧ F + 1 + 1 < wr.heap.size) (fun i _ => n + 512 - (intOf i).toNat)
          case atStart => exact ⟨0, 0, none, by omega, rfl, rfl, Hh.out, Hp.out, by simp, by simp, Hslr.out, Hbr.out, HGr.out⟩
          case round =>
            clear Hh Hp Hslr Hbr HGr hmn hlt
            obtain ⟨k2, m, gp, hml, rfl, hm, hh, hp, hgp, hgg, hsl, hbr, hGr⟩ := hrel
            have Hm := Lib.hid hm
            have Hh := Lib.hid hh
            have Hp := Lib.hid hp
            have Hgp := Lib.hid hgp
            have Hgg := Lib.hid hgg
            have Hslr := Lib.hid hsl
            have Hbr := Lib.hid hbr
            have HGr := Lib.hid hGr
            clear hm hh hp hgp hgg hsl hbr hGr
            by_cases hlt : m < n
            · by_cases h5 : m + 512 ≤ n
              ·
                obtain ⟨q, hq⟩ : ∃ q, q = (m + 512) - m := ⟨_, rfl⟩
                obtain ⟨a4, hs4, _, _, hsl4, _⟩ := Hslr.out.cut Tryd.underlying24 size_byte m ((m + 512)) (by omega) (by omega) (Nat.le_refl _)
                have hcut := fun w => hs4 w m ((m : Int) + 512) rfl (by omega)
                rw [← hq] at hcut hsl4
                simp only [Nat.mul_one] at hsl4
                obtain ⟨y, hy⟩ : ∃ y, y = (l.drop m).take q := ⟨_, rfl⟩
                have hyl : y.length = q := by rw [hy, List.length_take, List.length_drop, Hl.out]; omega
                have e4 : ((bytes l).drop m).take q = bytes y := by rw [hy]; simp [bytes, List.map_drop, List.map_take]
                rw [e4] at hsl4
                have hq5 : q ≤ 512 := by omega
                have hy5 : y = (l.drop (512 * k2)).take 512 := by rw [hy, Hm.out]; congr 1; omega
                have hpo : Parts (wr.alloc (.cells #[.slice a4 q (n - m)] 24)) (.slice (some ⟨wr.heap.size, 0, none⟩) 1 1) [y] := by
                  have h := parts_one wr 24 a4 (n - m) y (by rw [hyl]; exact hsl4)
                  rwa [hyl] at h
                have Hpo := Lib.hid hpo
                have Hyl := Lib.hid hyl
                have Hy5 := Lib.hid hy5
                have z0 : (0 : Int) ≤ (m : Int) := by omega
                clear hs4 hsl4 e4 hpo hyl hy5 hy hq
                go_wp2_with fail
                refine (SHA_any _ ((Hk.out.below Hbr.out).below (on_alloc (Below.refl _ _) _)) ((Hbg.out.below Hbr.out).below (on_alloc (Below.refl _ _) _)) _ 1 [y] Hpo.out (by simp; rw [Hyl.out]; omega) (by simp)).mono ?_
                rintro e w8 ⟨rfl, hb8⟩
                have hbr2 : Below wr.heap.size wr w8 := below_on (on_alloc (Below.refl _ _) _) hb8
                have Hb8 := Lib.hid (Hbr.out.trans (hbr2.mono Hbr.out.size))
                have Hp8 := Lib.hid (Hp.out.kept (Upd.below hbr2 fun _ => False) id id (fun _ _ => id))
                have Hh8 := Lib.hid (Hh.out.kept (Upd.below hbr2 fun _ => False) id (fun _ _ => id))
                have Hs8 := Lib.hid (Hslr.out.below hbr2)
                have HG8 := Lib.hid (Nat.lt_of_lt_of_le HGr.out hbr2.size)
                have hfl : [y].flatten = y := by simp
                rw [hfl]
                obtain ⟨Y, hY⟩ : ∃ Y, Y = sha y := ⟨_, rfl⟩
                obtain ⟨C2, hC2⟩ : ∃ C, C = (bytes Y).toArray := ⟨_, rfl⟩
                have hYl : Y.length = 32 := by rw [hY]; rfl
                rw [← hY, ← hC2]
                have HY := Lib.hid hY
                have HC2 := Lib.hid hC2
                have HYl := Lib.hid hYl
                clear hb8 hfl hY hC2 hYl hbr2 hcut
                have hgl : gp ≠ some 2 := fun h => by have := Hgp.out _ h; omega
                have hql : (shasTo l k2).length + 32 ≤ 70368744177664 := by rw [shasTo_length]; have := Hm.out; omega
                go_wp2_with fail
                refine (piecesAdd_any w8 (F + 1 + 1) (F + 1) gp (shasTo l k2) Hp8.out C2 Y (by rw [HC2.out]) HYl.out (Hk.out.below Hb8.out) hql (by omega) hgl).mono ?_
                rintro e w9 ⟨rfl, g', hp9, hg9, hu9⟩
                have hS : ∀ b, (b = F + 1 ∨ gp = some b) → w.heap.size ≤ b ∧ b ≠ w.heap.size + 1 ∧ b ≠ F ∧ g ≠ some b := by
                  rintro b (rfl | h)
                  · refine ⟨by omega, by omega, by omega, fun e => ?_⟩
                    have := Hg.out _ e; omega
                  · have := Hgp.out b h
                    refine ⟨by omega, by omega, by omega, fun e => ?_⟩
                    exact Hgg.out b e h
                have Hb9 := Lib.hid (Hb8.out.upd (Nat.le_refl _) hu9 (fun b h => (hS b h).1))
                have Hh9 := Lib.hid (Hh8.out.kept hu9 (fun h => (hS F h).2.2.1 rfl) (fun b e h => (hS b h).2.2.2 e))
                have Hs9 := Lib.hid (Hs8.out.kept hu9 (fun b hb _ h => (hS b h).2.1 (by simp [Value.ownBlock] at hb; exact hb.symm)))
                have hG9 := Nat.lt_of_lt_of_le HG8.out hu9.size
                have hgg9 : ∀ b, g = some b → g' ≠ some b := by
                  intro b hb e
                  rcases hg9 b e with h | h
                  · exact Hgg.out b hb h
                  · have := (Hh8.out.lt).2 b hb; omega
                have hg9' : ∀ b, g' = some b → F + 1 + 1 < b := fun b hb => by
                  rcases hg9 b hb with h | h
                  · exact Hgp.out b h
                  · have := HG8.out; omega
                have Hp9 := Lib.hid hp9
                have Hg9 := Lib.hid hg9'
                have Hgg9 := Lib.hid hgg9
                have HG9 := Lib.hid hG9
                clear hp9 hg9 hu9 hS hg9' hgl hql hG9 hgg9
                go_wp2
                go_roundw
                case rel =>
                  refine ⟨k2 + 1, m + 512, g', by omega, by go_num, by have := Hm.out; omega, Hh9.out, ?_, Hg9.out, Hgg9.out, Hs9.out, Hb9.out, HG9.out⟩
                  rw [shasTo_succ]
                  have h := Hp9.out
                  rw [HY.out, Hy5.out] at h
                  exact h
                case measure => simp [intOf]; omega
              ·
                obtain ⟨q, hq⟩ : ∃ q, q = n - m := ⟨_, rfl⟩
                obtain ⟨a4, hs4, _, _, hsl4, _⟩ := Hslr.out.cut Tryd.underlying24 size_byte m (n) (by omega) (by omega) (Nat.le_refl _)
                have hcut := fun w => hs4 w m n rfl (by omega)
                rw [← hq] at hcut hsl4
                simp only [Nat.mul_one] at hsl4
                obtain ⟨y, hy⟩ : ∃ y, y = (l.drop m).take q := ⟨_, rfl⟩
                have hyl : y.length = q := by rw [hy, List.length_take, List.length_drop, Hl.out]; omega
                have e4 : ((bytes l).drop m).take q = bytes y := by rw [hy]; simp [bytes, List.map_drop, List.map_take]
                rw [e4] at hsl4
                have hq5 : q ≤ 512 := by omega
                have hy5 : y = (l.drop (512 * k2)).take 512 := by rw [hy, Hm.out]; rw [List.take_of_length_le (by rw [List.length_drop, Hl.out]; have := Hm.out; omega), List.take_of_length_le (by rw [List.length_drop, Hl.out]; have := Hm.out; omega)]
                have hpo : Parts (wr.alloc (.cells #[.slice a4 q q] 24)) (.slice (some ⟨wr.heap.size, 0, none⟩) 1 1) [y] := by
                  have h := parts_one wr 24 a4 q y (by rw [hyl]; exact hsl4)
                  rwa [hyl] at h
                have Hpo := Lib.hid hpo
                have Hyl := Lib.hid hyl
                have Hy5 := Lib.hid hy5
                have z0 : (0 : Int) ≤ (m : Int) := by omega
                clear hs4 hsl4 e4 hpo hyl hy5 hy hq
                go_wp2_with fail
                refine (SHA_any _ ((Hk.out.below Hbr.out).below (on_alloc (Below.refl _ _) _)) ((Hbg.out.below Hbr.out).below (on_alloc (Below.refl _ _) _)) _ 1 [y] Hpo.out (by simp; rw [Hyl.out]; omega) (by simp)).mono ?_
                rintro e w8 ⟨rfl, hb8⟩
                have hbr2 : Below wr.heap.size wr w8 := below_on (on_alloc (Below.refl _ _) _) hb8
                have Hb8 := Lib.hid (Hbr.out.trans (hbr2.mono Hbr.out.size))
                have Hp8 := Lib.hid (Hp.out.kept (Upd.below hbr2 fun _ => False) id id (fun _ _ => id))
                have Hh8 := Lib.hid (Hh.out.kept (Upd.below hbr2 fun _ => False) id (fun _ _ => id))
                have Hs8 := Lib.hid (Hslr.out.below hbr2)
                have HG8 := Lib.hid (Nat.lt_of_lt_of_le HGr.out hbr2.size)
                have hfl : [y].flatten = y := by simp
                rw [hfl]
                obtain ⟨Y, hY⟩ : ∃ Y, Y = sha y := ⟨_, rfl⟩
                obtain ⟨C2, hC2⟩ : ∃ C, C = (bytes Y).toArray := ⟨_, rfl⟩
                have hYl : Y.length = 32 := by rw [hY]; rfl
                rw [← hY, ← hC2]
                have HY := Lib.hid hY
                have HC2 := Lib.hid hC2
                have HYl := Lib.hid hYl
                clear hb8 hfl hY hC2 hYl hbr2 hcut
                have hgl : gp ≠ some 2 := fun h => by have := Hgp.out _ h; omega
                have hql : (shasTo l k2).length + 32 ≤ 70368744177664 := by rw [shasTo_length]; have := Hm.out; omega
                go_wp2_with fail
                refine (piecesAdd_any w8 (F + 1 + 1) (F + 1) gp (shasTo l k2) Hp8.out C2 Y (by rw [HC2.out]) HYl.out (Hk.out.below Hb8.out) hql (by omega) hgl).mono ?_
                rintro e w9 ⟨rfl, g', hp9, hg9, hu9⟩
                have hS : ∀ b, (b = F + 1 ∨ gp = some b) → w.heap.size ≤ b ∧ b ≠ w.heap.size + 1 ∧ b ≠ F ∧ g ≠ some b := by
                  rintro b (rfl | h)
                  · refine ⟨by omega, by omega, by omega, fun e => ?_⟩
                    have := Hg.out _ e; omega
                  · have := Hgp.out b h
                    refine ⟨by omega, by omega, by omega, fun e => ?_⟩
                    exact Hgg.out b e h
                have Hb9 := Lib.hid (Hb8.out.upd (Nat.le_refl _) hu9 (fun b h => (hS b h).1))
                have Hh9 := Lib.hid (Hh8.out.kept hu9 (fun h => (hS F h).2.2.1 rfl) (fun b e h => (hS b h).2.2.2 e))
                have Hs9 := Lib.hid (Hs8.out.kept hu9 (fun b hb _ h => (hS b h).2.1 (by simp [Value.ownBlock] at hb; exact hb.symm)))
                have hG9 := Nat.lt_of_lt_of_le HG8.out hu9.size
                have hgg9 : ∀ b, g = some b → g' ≠ some b := by
                  intro b hb e
                  rcases hg9 b e with h | h
                  · exact Hgg.out b hb h
                  · have := (Hh8.out.lt).2 b hb; omega
                have hg9' : ∀ b, g' = some b → F + 1 + 1 < b := fun b hb => by
                  rcases hg9 b hb with h | h
                  · exact Hgp.out b h
                  · have := HG8.out; omega
                have Hp9 := Lib.hid hp9
                have Hg9 := Lib.hid hg9'
                have Hgg9 := Lib.hid hgg9
                have HG9 := Lib.hid hG9
                clear hp9 hg9 hu9 hS hg9' hgl hql hG9 hgg9
                go_wp2
                go_roundw
                case rel =>
                  refine ⟨k2 + 1, m + 512, g', by omega, by go_num, by have := Hm.out; omega, Hh9.out, ?_, Hg9.out, Hgg9.out, Hs9.out, Hb9.out, HG9.out⟩
                  rw [shasTo_succ]
                  have h := Hp9.out
                  rw [HY.out, Hy5.out] at h
                  exact h
                case measure => simp [intOf]; omega
            · have hkc : k2 = pieceCount l.length := by have := Hm.out; rw [Hl.out]; unfold pieceCount; omega
              have hp := Hp.out
              rw [hkc] at hp
              have Hp := Lib.hid hp
              obtain ⟨L, hL⟩ : ∃ L, L = bytes (sha l) := ⟨_, rfl⟩
              have hLl : L.length = 32 := by rw [hL]; rfl
              have inf26 : (Tryd.prog.info? 26).map (·.size) = some L.length := by rw [hLl]; kernel_rfl
              have und26 : Tryd.prog.underlying 26 = some (.array 32 5) := Tryd.underlying26
              obtain ⟨hCs, hCo⟩ := sum_cells (sha l) rfl
              rw [← hL] at hCs hCo
              have q1 : ∀ w, (Op.equalIn 10000 26 (.agg L.toArray) (.agg L.toArray)).run Tryd.prog w = .ok true w := fun w => by rw [hL]; exact eq_sum _ rfl w
              have HL := Lib.hid hL
              have HCs := Lib.hid hCs
              have HCo := Lib.hid hCo
              have hpo : Parts (wr.alloc (.cells #[.slice (some ⟨w.heap.size + 1, 0, none⟩) n n] 24)) (.slice (some ⟨wr.heap.size, 0, none⟩) 1 1) [l] := by
                have h := parts_one wr 24 (some ⟨w.heap.size + 1, 0, none⟩) n l (by rw [Hl.out]; exact Hslr.out)
                rwa [Hl.out] at h
              have Hpo := Lib.hid hpo
              clear hkc hp hL hLl hCs hCo hpo
              go_wp2_with fail
              refine (SHA_any _ ((Hk.out.below Hbr.out).below (on_alloc (Below.refl _ _) _)) ((Hbg.out.below Hbr.out).below (on_alloc (Below.refl _ _) _)) _ 1 [l] Hpo.out (by simp; rw [Hl.out]; omega) (by simp)).mono ?_
              rintro e w8 ⟨rfl, hb8⟩
              have hbr2 : Below wr.heap.size wr w8 := below_on (on_alloc (Below.refl _ _) _) hb8
              have Hb8 := Lib.hid (Hbr.out.trans (hbr2.mono Hbr.out.size))
              have Hp8 := Lib.hid (Hp.out.kept (Upd.below hbr2 fun _ => False) id id (fun _ _ => id))
              have Hh8 := Lib.hid (Hh.out.kept (Upd.below hbr2 fun _ => False) id (fun _ _ => id))
              have Hs8 := Lib.hid (Hslr.out.below hbr2)
              rw [show (bytes (sha [l].flatten)).toArray = L.toArray by rw [HL.out]; simp]
              clear hb8 hbr2 Hp Hh Hslr
              go_wp2_with (refine wpList_store_fresh rfl 26 _ _ rfl L.toArray rfl rfl (by rw [HCs.out]; kernel_rfl) (by rw [HCs.out]; rfl) HCo.out ?_)
              intro w9 hs9 hr9 hb9
              have Hb9 := Lib.hid (Hb8.out.trans (hb9.mono Hb8.out.size))
              have Hp9 := Lib.hid (Hp8.out.kept (Upd.below hb9 fun _ => False) id id (fun _ _ => id))
              have Hh9 := Lib.hid (Hh8.out.kept (Upd.below hb9 fun _ => False) id (fun _ _ => id))
              have Hs9 := Lib.hid (Hs8.out.below hb9)
              clear hs9 hb9 Hb8 Hp8 Hh8 Hs8
              obtain ⟨G, hG⟩ : ∃ G, G = w8.heap.size := ⟨_, rfl⟩
              rw [← hG] at hr9 ⊢
              have HKS : Hid (∀ w', Below w9.heap.size w9 w' → Below w9.heap.size w9 w' ∧ w'.rangeAt G 0 L) := fun w' h => ⟨h, fun j v hj => by
                rw [Nat.zero_add, cell_of_row w' G j _ _ _ ((h.block _ (lt_heap hr9)).trans hr9)]; simpa using hj⟩
              have Hkn := Lib.hid (Below.refl w9.heap.size w9)
              have HLc : Hid ((bytes (sha l)).toArray = L.toArray) := by show _ = _; rw [HL.out]
              obtain ⟨h2, hh2⟩ : ∃ h2, h2 = n / 2 := ⟨_, rfl⟩
              have g1 : (n : Int) / 2 = (h2 : Int) := by omega
              have g2 : (n : Int).tdiv 2 = (h2 : Int) := by rw [hh2]; rfl
              have hh2n : h2 ≤ n := by omega
              have w3 : IntKind.i64.wrap (h2 : Int) = (h2 : Int) := IntWalk.i64_in _ (by omega)
              obtain ⟨a8, _, hs8, _, hsl8, _⟩ := Hs9.out.cut Tryd.underlying24 size_byte h2 n hh2n (Nat.le_refl _) (Nat.le_refl _)
              have hcut2 := fun w => hs8 w h2 rfl rfl
              simp only [Nat.mul_one] at hsl8
              have e8 : ((bytes l).drop h2).take (n - h2) = bytes (l.drop h2) := by
                rw [List.take_of_length_le (by rw [List.length_drop, bytes_length, Hl.out]; exact Nat.le_refl _)]; simp [bytes, List.map_drop]
              rw [e8] at hsl8
              have Hsd := Lib.hid hsl8
              have Hst := Lib.hid (Hs9.out.to hh2n)
              have Hx1 := Lib.hid (show (l.take h2).length = h2 by rw [List.length_take, Hl.out]; omega)
              have Hx2 := Lib.hid (show (l.drop h2).length = n - h2 by rw [List.length_drop, Hl.out])
              have HS4 : Hid ((bytes (sha [[], l.take h2, [], l.drop h2].flatten)).toArray = L.toArray) := by show _ = _; rw [show [[], l.take h2, [], l.drop h2].flatten = l by simp, HL.out]
              obtain ⟨C3, hC3⟩ : ∃ C, C = (bytes (digest l)).toArray := ⟨_, rfl⟩
              have q3 : ∀ w, (Op.equalIn 10000 26 (.agg C3) (.agg C3)).run Tryd.prog w = .ok true w := fun w => by rw [hC3]; exact eq_sum _ rfl w
              have HC3 : Hid ((bytes (digest l)).toArray = C3) := hC3.symm
              have HC4 : Hid ((bytes (sha (shasTo l (pieceCount l.length)))).toArray = C3) := by show _ = _; rw [hC3]; rfl
              have hln : (shasTo l (pieceCount l.length)).length ≤ 70368744177664 := by rw [shasTo_length, Hl.out]; unfold pieceCount; omega
              have Hln := Lib.hid hln
              have z3 : (0 : Int) ≤ (h2 : Int) := by omega
              have z4 : (h2 : Int) ≤ (n : Int) := by omega
              clear hr9 hG hh2 hs8 hsl8 e8 hC3 hln
              go_wp2_with fail
              go_region_held3 (fun w' => Below w9.heap.size w9 w' ∧ w'.rangeAt G 0 L) (first | assumption | exact HKS.out _ Hkn.out | exact HKS.out _ (on_drew Hkn.out) | exact HKS.out _ (on_alloc Hkn.out _) | exact HKS.out _ (on_drew (on_alloc Hkn.out _)))
                (first
                | (go_at_call 13; go_split_ands; refine (sum_any _ F g l ?_ ?_ (by rw [Hl.out]; omega)).mono ?_; exact Hh9.out.kept (Upd.below (by assumption) fun _ => False) id (fun _ _ => id); exact (Hk.out.below Hb9.out).below (by assumption); rintro e wn ⟨rfl, hbn⟩; rw [HLc.out]; have Hbe := Lib.hid (show Below w9.heap.size w9 _ by assumption); have Hkn := Lib.hid (below_on Hbe.out hbn))
                | (go_at_call 14; go_split_ands; refine (hashLen_any _ F g l ?_).mono ?_; exact Hh9.out.kept (Upd.below (by assumption) fun _ => False) id (fun _ _ => id); rintro e wn ⟨rfl, hbn⟩; rw [Hl.out]; have Hkn := Lib.hid (below_on (show Below w9.heap.size w9 _ by assumption) hbn); clear hbn)
                | (go_at_call 24; go_split_ands; refine (SHA_any _ ?_ ?_ _ 4 [[], l.take h2, [], l.drop h2] ?_ (by simp; rw [Hl.out]; omega) (by simp)).mono ?_; exact (Hk.out.below Hb9.out).below (by assumption); exact (Hbg.out.below Hb9.out).below (by assumption); (first | exact parts_row4 (heap_alloc_new _ _) Hx1.out Hx2.out (Hst.out.below (by assumption)) (Hsd.out.below (by assumption)) | exact (parts_row4 (heap_alloc_new _ _) Hx1.out Hx2.out (Hst.out.below Hbe.out) (Hsd.out.below Hbe.out)).below hbn); rintro e wn ⟨rfl, hbm⟩; rw [HS4.out]; have Hkn := Lib.hid (below_on (show Below w9.heap.size w9 _ by assumption) hbm); clear hbm)
                | (go_at_call 39; go_split_ands; refine (piecesSum_any _ (F + 1 + 1) (F + 1) gp _ ?_ ?_ Hln.out).mono ?_; exact Hp9.out.kept (Upd.below (by assumption) fun _ => False) id id (fun _ _ => id); exact (Hk.out.below Hb9.out).below (by assumption); rintro e wn ⟨rfl, hbn⟩; rw [HC4.out]; have Hkn := Lib.hid (below_on (show Below w9.heap.size w9 _ by assumption) hbn); clear hbn)
                | (go_at_call 29; go_split_ands; refine (digest_at _ n ?_ ?_ _ n l ?_ Hl.out (Nat.le_refl _) (by omega)).mono ?_; exact (Hk.out.below Hb9.out).below (by assumption); exact (Hbg.out.below Hb9.out).below (by assumption); exact Hs9.out.below (by assumption); rintro e wn ⟨rfl, hbn⟩; rw [HC3.out]; have Hkn := Lib.hid (below_on (show Below w9.heap.size w9 _ by assumption) hbn); clear hbn))
              all_goals
                go_wp2
                go_ret
                exact ⟨rfl, Hb9.out.trans (Hkn.out.mono Hb9.out.size)⟩
end Go.Proofs.YtefobboakikpbaaDoor
